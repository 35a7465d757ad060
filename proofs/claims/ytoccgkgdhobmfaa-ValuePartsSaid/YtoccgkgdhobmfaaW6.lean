/- Part 6 of a proof: the abstract machine and the contracts of the program. -/
import Derived.Test.YtoccgkgdhobmfaaW5
set_option maxRecDepth 100000
set_option linter.unusedSimpArgs false
set_option linter.unusedVariables false
namespace Go.Proofs.Ytoccgkgdhobmfaa.Am.Ru
open Go
variable {G : Nat → Option (List V)} {E : Nat → Option (CallFn → List V → Hp → Nat → Option Out)}
mutual
def wtV : Val → Int
  | .mk k n ks => if k = 0 then (if n < 0 then -n else n) else if k = 1 then n else if k = 2 then wtVs ks else if k = 3 then n + wtVs ks else if k = 4 then (ks.length : Int) + wtVs ks else 0
def wtVs : List Val → Int
  | [] => 0
  | a :: l => wtV a + wtVs l
end
theorem wtV_eq (a : Val) : wtV a = if a.kind = 0 then (if a.n < 0 then -a.n else a.n) else if a.kind = 1 then a.n else if a.kind = 2 then wtVs a.kids else if a.kind = 3 then a.n + wtVs a.kids else if a.kind = 4 then (a.kids.length : Int) + wtVs a.kids else 0 := by cases a; simp only [wtV, Val.kids_mk, Val.n_mk, Val.kind_mk]
theorem wtVs_nil : wtVs [] = 0 := by simp only [wtVs]
theorem wtVs_cons (a : Val) (l : List Val) : wtVs (a :: l) = wtV a + wtVs l := by simp only [wtVs]
theorem wtVs_take (l : List Val) (k : Nat) (h : k < l.length) : wtVs (l.take (k + 1)) = wtVs (l.take k) + wtV (l.getD k Val.z) := by
  induction l generalizing k with
  | nil => simp at h
  | cons a l ih =>
    cases k with
    | zero => simp [wtVs_cons, wtVs_nil]
    | succ k => simp only [List.take_succ_cons, wtVs_cons, List.getD_cons_succ]; rw [ih k (by simpa using h)]; omega
mutual
def rgV : Val → Prop
  | .mk k n ks => (-9223372036854775808 ≤ k ∧ k < 9223372036854775808) ∧ (-9223372036854775808 ≤ n ∧ n < 9223372036854775808) ∧ rgVs ks
def rgVs : List Val → Prop
  | [] => True
  | a :: l => rgV a ∧ rgVs l
end
theorem rgVs_mem : ∀ {l : List Val}, rgVs l ↔ ∀ x ∈ l, rgV x
  | [] => by simp [rgVs]
  | a :: l => by simp only [rgVs, rgVs_mem (l := l), List.mem_cons, forall_eq_or_imp]
theorem rgV_eq (t : Val) : rgV t ↔ (-9223372036854775808 ≤ t.kind ∧ t.kind < 9223372036854775808) ∧ (-9223372036854775808 ≤ t.n ∧ t.n < 9223372036854775808) ∧ ∀ x ∈ t.kids, rgV x := by
  cases t; simp only [rgV, rgVs_mem, Val.kids, Val.kind, Val.n]
theorem wneg (a : Int) : unV .neg (.int .i64 a) = some (.int .i64 (IntKind.i64.wrap (-a))) := by simp [unV]
theorem wid (a : Int) (h : -9223372036854775808 ≤ a) (h' : a < 9223372036854775808) : IntKind.i64.wrap a = a := wrap_i64_ok a h h'
/-- What a node itself adds. -/
def ownW (v : Val) : Int := if v.kind = 0 then (if v.n < 0 then -v.n else v.n) else if v.kind = 1 then v.n else if v.kind = 2 then 0 else if v.kind = 3 then v.n else v.kids.length
theorem weights_ok (hE : XOK E) (a : Val) (ha : okV' a) (hr : rgV a) (h0 : 0 ≤ a.kind) (h4 : a.kind ≤ 4) : valP (cfW G T E) 95 [.agg a.row] = some (.ret (.int .i64 (IntKind.i64.wrap (ownW a)))) := by
  rw [okV_kids] at ha
  rw [rgV_eq] at hr
  have hz : (List.map i64 (List.replicate 5 (0 : Int))) = [.int .i64 0, .int .i64 0, .int .i64 0, .int .i64 0, .int .i64 0] := rfl
  refine xrun 4 (m := m95) hE rfl rfl rfl rfl ?_
  unfold ownW
  have hk : a.kind = 0 ∨ a.kind = 1 ∨ a.kind = 2 ∨ a.kind = 3 ∨ a.kind = 4 := by omega
  have hn := hr.2.1
  rcases hk with hk | hk | hk | hk | hk
  · by_cases hneg : a.n < 0
    · rw [if_pos hk, if_pos hneg]
      simp (maxSteps := 10000000) (disch := first | assumption | omega | (simp only [zy19, zy17, zy18, zy34, zy35, zy36, zy11, zy12, rsL] <;> omega) | with_reducible exact rowOK_nil _ _ | ((repeat' apply rowOK_put) <;> first | assumption | exact rowP_ok _ _ _ _ _ | omega) | (simp only [rsI]; done)) only [↓rsW, ↓rsd, rsu, rsX, zyB, Int.reduceEq, ↓reduceIte, zy0, zy1, zy2, zy3, zy4, zy5, zy6, zy7, zy8, zy9, zy10, zy11, zy12, zy13, zy14, zy15, zy16, Nat.reduceEqDiff, Nat.reduceBEq, Nat.reduceAdd, Nat.reduceMul, Nat.reduceSub, Int.reduceToNat, zy17, zy18, zy19, zy20, Nat.reduceLT, Nat.reduceLeDiff, zy21, zy22, zy23, zy24, zy25, zy26, Int.reduceAdd, Int.reduceMul, Int.reduceSub, Int.reduceNeg, Int.reduceDiv, Int.reduceMod, zy27, m95, hz, hk, wneg]
    · rw [if_pos hk, if_neg hneg, wid _ hn.1 hn.2]
      simp (maxSteps := 10000000) (disch := first | assumption | omega | (simp only [zy19, zy17, zy18, zy34, zy35, zy36, zy11, zy12, rsL] <;> omega) | with_reducible exact rowOK_nil _ _ | ((repeat' apply rowOK_put) <;> first | assumption | exact rowP_ok _ _ _ _ _ | omega) | (simp only [rsI]; done)) only [↓rsW, ↓rsd, rsu, rsX, zyB, Int.reduceEq, ↓reduceIte, zy0, zy1, zy2, zy3, zy4, zy5, zy6, zy7, zy8, zy9, zy10, zy11, zy12, zy13, zy14, zy15, zy16, Nat.reduceEqDiff, Nat.reduceBEq, Nat.reduceAdd, Nat.reduceMul, Nat.reduceSub, Int.reduceToNat, zy17, zy18, zy19, zy20, Nat.reduceLT, Nat.reduceLeDiff, zy21, zy22, zy23, zy24, zy25, zy26, Int.reduceAdd, Int.reduceMul, Int.reduceSub, Int.reduceNeg, Int.reduceDiv, Int.reduceMod, zy27, m95, hz, hk]
  · rw [if_neg (by omega), if_pos hk, wid _ hn.1 hn.2]
    simp (maxSteps := 10000000) (disch := first | assumption | omega | (simp only [zy19, zy17, zy18, zy34, zy35, zy36, zy11, zy12, rsL] <;> omega) | with_reducible exact rowOK_nil _ _ | ((repeat' apply rowOK_put) <;> first | assumption | exact rowP_ok _ _ _ _ _ | omega) | (simp only [rsI]; done)) only [↓rsW, ↓rsd, rsu, rsX, zyB, Int.reduceEq, ↓reduceIte, zy0, zy1, zy2, zy3, zy4, zy5, zy6, zy7, zy8, zy9, zy10, zy11, zy12, zy13, zy14, zy15, zy16, Nat.reduceEqDiff, Nat.reduceBEq, Nat.reduceAdd, Nat.reduceMul, Nat.reduceSub, Int.reduceToNat, zy17, zy18, zy19, zy20, Nat.reduceLT, Nat.reduceLeDiff, zy21, zy22, zy23, zy24, zy25, zy26, Int.reduceAdd, Int.reduceMul, Int.reduceSub, Int.reduceNeg, Int.reduceDiv, Int.reduceMod, zy27, m95, hz, hk]
  · rw [if_neg (by omega), if_neg (by omega), if_pos hk]
    simp (maxSteps := 10000000) (disch := first | assumption | omega | (simp only [zy19, zy17, zy18, zy34, zy35, zy36, zy11, zy12, rsL] <;> omega) | with_reducible exact rowOK_nil _ _ | ((repeat' apply rowOK_put) <;> first | assumption | exact rowP_ok _ _ _ _ _ | omega) | (simp only [rsI]; done)) only [↓rsW, ↓rsd, rsu, rsX, zyB, Int.reduceEq, ↓reduceIte, zy0, zy1, zy2, zy3, zy4, zy5, zy6, zy7, zy8, zy9, zy10, zy11, zy12, zy13, zy14, zy15, zy16, Nat.reduceEqDiff, Nat.reduceBEq, Nat.reduceAdd, Nat.reduceMul, Nat.reduceSub, Int.reduceToNat, zy17, zy18, zy19, zy20, Nat.reduceLT, Nat.reduceLeDiff, zy21, zy22, zy23, zy24, zy25, zy26, Int.reduceAdd, Int.reduceMul, Int.reduceSub, Int.reduceNeg, Int.reduceDiv, Int.reduceMod, zy27, m95, hz, hk]
  · rw [if_neg (by omega), if_neg (by omega), if_neg (by omega), if_pos hk, wid _ hn.1 hn.2]
    simp (maxSteps := 10000000) (disch := first | assumption | omega | (simp only [zy19, zy17, zy18, zy34, zy35, zy36, zy11, zy12, rsL] <;> omega) | with_reducible exact rowOK_nil _ _ | ((repeat' apply rowOK_put) <;> first | assumption | exact rowP_ok _ _ _ _ _ | omega) | (simp only [rsI]; done)) only [↓rsW, ↓rsd, rsu, rsX, zyB, Int.reduceEq, ↓reduceIte, zy0, zy1, zy2, zy3, zy4, zy5, zy6, zy7, zy8, zy9, zy10, zy11, zy12, zy13, zy14, zy15, zy16, Nat.reduceEqDiff, Nat.reduceBEq, Nat.reduceAdd, Nat.reduceMul, Nat.reduceSub, Int.reduceToNat, zy17, zy18, zy19, zy20, Nat.reduceLT, Nat.reduceLeDiff, zy21, zy22, zy23, zy24, zy25, zy26, Int.reduceAdd, Int.reduceMul, Int.reduceSub, Int.reduceNeg, Int.reduceDiv, Int.reduceMod, zy27, m95, hz, hk]
  · rw [if_neg (by omega), if_neg (by omega), if_neg (by omega), if_neg (by omega), wid _ (by omega) (by omega)]
    simp (maxSteps := 10000000) (disch := first | assumption | omega | (simp only [zy19, zy17, zy18, zy34, zy35, zy36, zy11, zy12, rsL] <;> omega) | with_reducible exact rowOK_nil _ _ | ((repeat' apply rowOK_put) <;> first | assumption | exact rowP_ok _ _ _ _ _ | omega) | (simp only [rsI]; done)) only [↓rsW, ↓rsd, rsu, rsX, zyB, Int.reduceEq, ↓reduceIte, zy0, zy1, zy2, zy3, zy4, zy5, zy6, zy7, zy8, zy9, zy10, zy11, zy12, zy13, zy14, zy15, zy16, Nat.reduceEqDiff, Nat.reduceBEq, Nat.reduceAdd, Nat.reduceMul, Nat.reduceSub, Int.reduceToNat, zy17, zy18, zy19, zy20, Nat.reduceLT, Nat.reduceLeDiff, zy21, zy22, zy23, zy24, zy25, zy26, Int.reduceAdd, Int.reduceMul, Int.reduceSub, Int.reduceNeg, Int.reduceDiv, Int.reduceMod, zy27, m95, hz, hk]
theorem wtV_own (a : Val) (h : a.kind = 0 ∨ a.kind = 1) : wtV a = ownW a := by
  rw [wtV_eq]; unfold ownW
  rcases h with h | h <;> simp [h]
theorem wtV_big (a : Val) (h0 : 0 ≤ a.kind) (h4 : a.kind ≤ 4) (h : ¬ (a.kind = 0 ∨ a.kind = 1)) : wtV a = ownW a + wtVs a.kids := by
  rw [wtV_eq]; unfold ownW
  have hk : a.kind = 2 ∨ a.kind = 3 ∨ a.kind = 4 := by omega
  rcases hk with hk | hk | hk <;> simp [hk]
theorem weight_ok (hE : XOK E) : ∀ a : Val, okV' a → rgV a → valP (cfW G T E) 49 [.agg a.row] = some (.ret (.int .i64 (IntKind.i64.wrap (wtV a)))) := by
  refine Val.ind ?_
  intro a ih ha hr
  have hw := weights_ok (G := G) hE a ha hr
  rw [okV_kids] at ha
  rw [rgV_eq] at hr
  have hg : ∀ x ∈ a.kids, valP (cfW G T E) 49 [.agg x.row] = some (.ret (.int .i64 (IntKind.i64.wrap (wtV x)))) := fun x hx => ih x hx (ha.2 x hx) (hr.2.2 x hx)
  refine xrun 6 (m := m49) hE rfl rfl rfl rfl ?_
  by_cases hlo : a.kind < 0
  · rw [wtV_eq, if_neg (by omega), if_neg (by omega), if_neg (by omega), if_neg (by omega), if_neg (by omega)]
    simp (maxSteps := 10000000) (disch := first | assumption | omega | (simp only [zy19, zy17, zy18, zy34, zy35, zy36, zy11, zy12, rsL] <;> omega) | with_reducible exact rowOK_nil _ _ | ((repeat' apply rowOK_put) <;> first | assumption | exact rowP_ok _ _ _ _ _ | omega) | (simp only [rsI]; done)) only [↓rsW, ↓rsd, rsu, rsX, zyB, Int.reduceEq, ↓reduceIte, zy0, zy1, zy2, zy3, zy4, zy5, zy6, zy7, zy8, zy9, zy10, zy11, zy12, zy13, zy14, zy15, zy16, Nat.reduceEqDiff, Nat.reduceBEq, Nat.reduceAdd, Nat.reduceMul, Nat.reduceSub, Int.reduceToNat, zy17, zy18, zy19, zy20, Nat.reduceLT, Nat.reduceLeDiff, zy21, zy22, zy23, zy24, zy25, zy26, Int.reduceAdd, Int.reduceMul, Int.reduceSub, Int.reduceNeg, Int.reduceDiv, Int.reduceMod, zy27, m49]
  · by_cases hhi : 4 < a.kind
    · rw [wtV_eq, if_neg (by omega), if_neg (by omega), if_neg (by omega), if_neg (by omega), if_neg (by omega)]
      simp (maxSteps := 10000000) (disch := first | assumption | omega | (simp only [zy19, zy17, zy18, zy34, zy35, zy36, zy11, zy12, rsL] <;> omega) | with_reducible exact rowOK_nil _ _ | ((repeat' apply rowOK_put) <;> first | assumption | exact rowP_ok _ _ _ _ _ | omega) | (simp only [rsI]; done)) only [↓rsW, ↓rsd, rsu, rsX, zyB, Int.reduceEq, ↓reduceIte, zy0, zy1, zy2, zy3, zy4, zy5, zy6, zy7, zy8, zy9, zy10, zy11, zy12, zy13, zy14, zy15, zy16, Nat.reduceEqDiff, Nat.reduceBEq, Nat.reduceAdd, Nat.reduceMul, Nat.reduceSub, Int.reduceToNat, zy17, zy18, zy19, zy20, Nat.reduceLT, Nat.reduceLeDiff, zy21, zy22, zy23, zy24, zy25, zy26, Int.reduceAdd, Int.reduceMul, Int.reduceSub, Int.reduceNeg, Int.reduceDiv, Int.reduceMod, zy27, m49]
    · have hw' := hw (by omega) (by omega)
      by_cases h01 : a.kind = 0 ∨ a.kind = 1
      · rw [wtV_own a h01]
        rcases h01 with h | h
        · simp (maxSteps := 10000000) (disch := first | assumption | omega | (simp only [zy19, zy17, zy18, zy34, zy35, zy36, zy11, zy12, rsL] <;> omega) | with_reducible exact rowOK_nil _ _ | ((repeat' apply rowOK_put) <;> first | assumption | exact rowP_ok _ _ _ _ _ | omega) | (simp only [rsI]; done)) only [↓rsW, ↓rsd, rsu, rsX, zyB, Int.reduceEq, ↓reduceIte, zy0, zy1, zy2, zy3, zy4, zy5, zy6, zy7, zy8, zy9, zy10, zy11, zy12, zy13, zy14, zy15, zy16, Nat.reduceEqDiff, Nat.reduceBEq, Nat.reduceAdd, Nat.reduceMul, Nat.reduceSub, Int.reduceToNat, zy17, zy18, zy19, zy20, Nat.reduceLT, Nat.reduceLeDiff, zy21, zy22, zy23, zy24, zy25, zy26, Int.reduceAdd, Int.reduceMul, Int.reduceSub, Int.reduceNeg, Int.reduceDiv, Int.reduceMod, zy27, m49, hw', h]
        · simp (maxSteps := 10000000) (disch := first | assumption | omega | (simp only [zy19, zy17, zy18, zy34, zy35, zy36, zy11, zy12, rsL] <;> omega) | with_reducible exact rowOK_nil _ _ | ((repeat' apply rowOK_put) <;> first | assumption | exact rowP_ok _ _ _ _ _ | omega) | (simp only [rsI]; done)) only [↓rsW, ↓rsd, rsu, rsX, zyB, Int.reduceEq, ↓reduceIte, zy0, zy1, zy2, zy3, zy4, zy5, zy6, zy7, zy8, zy9, zy10, zy11, zy12, zy13, zy14, zy15, zy16, Nat.reduceEqDiff, Nat.reduceBEq, Nat.reduceAdd, Nat.reduceMul, Nat.reduceSub, Int.reduceToNat, zy17, zy18, zy19, zy20, Nat.reduceLT, Nat.reduceLeDiff, zy21, zy22, zy23, zy24, zy25, zy26, Int.reduceAdd, Int.reduceMul, Int.reduceSub, Int.reduceNeg, Int.reduceDiv, Int.reduceMod, zy27, m49, hw', h]
      · have k0 : ¬ a.kind = 0 := fun h => h01 (.inl h)
        have k1 : ¬ a.kind = 1 := fun h => h01 (.inr h)
        rw [wtV_big a (by omega) (by omega) h01]
        simp (maxSteps := 10000000) (disch := first | assumption | omega | (simp only [zy19, zy17, zy18, zy34, zy35, zy36, zy11, zy12, rsL] <;> omega) | with_reducible exact rowOK_nil _ _ | ((repeat' apply rowOK_put) <;> first | assumption | exact rowP_ok _ _ _ _ _ | omega) | (simp only [rsI]; done)) only [↓rsW, ↓rsd, rsu, rsX, zyB, Int.reduceEq, ↓reduceIte, zy0, zy1, zy2, zy3, zy4, zy5, zy6, zy7, zy8, zy9, zy10, zy11, zy12, zy13, zy14, zy15, zy16, Nat.reduceEqDiff, Nat.reduceBEq, Nat.reduceAdd, Nat.reduceMul, Nat.reduceSub, Int.reduceToNat, zy17, zy18, zy19, zy20, Nat.reduceLT, Nat.reduceLeDiff, zy21, zy22, zy23, zy24, zy25, zy26, Int.reduceAdd, Int.reduceMul, Int.reduceSub, Int.reduceNeg, Int.reduceDiv, Int.reduceMod, zy27, m49, hw']
        refine go_loop2 6 (fun n s => ∃ k : Nat, n = a.kids.length - k ∧ k ≤ a.kids.length ∧ s.e 3 = .int .i64 (IntKind.i64.wrap (ownW a + wtVs (a.kids.take k))) ∧ s.e 26 = .sl 3 (Val.rows a.kids) ∧ s.e 27 = .int .i64 a.kids.length ∧ s.e 28 = .int .i64 k) a.kids.length ?_ ?_
        · refine ⟨0, rfl, by omega, ?_⟩
          simp (maxSteps := 10000000) (disch := first | assumption | omega | (simp only [zy19, zy17, zy18, zy34, zy35, zy36, zy11, zy12, rsL] <;> omega) | with_reducible exact rowOK_nil _ _ | ((repeat' apply rowOK_put) <;> first | assumption | exact rowP_ok _ _ _ _ _ | omega) | (simp only [rsI]; done)) only [↓rsW, ↓rsd, rsu, rsX, zyB, Int.reduceEq, ↓reduceIte, zy0, zy1, zy2, zy3, zy4, zy5, zy6, zy7, zy8, zy9, zy10, zy11, zy12, zy13, zy14, zy15, zy16, Nat.reduceEqDiff, Nat.reduceBEq, Nat.reduceAdd, Nat.reduceMul, Nat.reduceSub, Int.reduceToNat, zy17, zy18, zy19, zy20, Nat.reduceLT, Nat.reduceLeDiff, zy21, zy22, zy23, zy24, zy25, zy26, Int.reduceAdd, Int.reduceMul, Int.reduceSub, Int.reduceNeg, Int.reduceDiv, Int.reduceMod, zy27]
          rw [List.take_zero, wtVs_nil, Int.add_zero]; first | rfl | exact ⟨rfl, rfl⟩ | exact ⟨rfl, rfl, rfl⟩ | exact ⟨rfl, rfl, rfl, rfl⟩ | exact ⟨rfl, rfl, rfl, rfl, rfl⟩ | exact ⟨rfl, rfl, rfl, rfl, rfl, rfl⟩
        · rintro n e o N ⟨k, hn, hk, e3, e7, e8, e9⟩
          simp only at e3 e7 e8 e9
          by_cases hlt : k < a.kids.length
          · have hc := hg _ (getD_mem a.kids k Val.z hlt)
            simp (maxSteps := 10000000) (disch := first | assumption | omega | (simp only [zy19, zy17, zy18, zy34, zy35, zy36, zy11, zy12, rsL] <;> omega) | with_reducible exact rowOK_nil _ _ | ((repeat' apply rowOK_put) <;> first | assumption | exact rowP_ok _ _ _ _ _ | omega) | (simp only [rsI]; done)) only [↓rsW, ↓rsd, rsu, rsX, zyB, Int.reduceEq, ↓reduceIte, zy0, zy1, zy2, zy3, zy4, zy5, zy6, zy7, zy8, zy9, zy10, zy11, zy12, zy13, zy14, zy15, zy16, Nat.reduceEqDiff, Nat.reduceBEq, Nat.reduceAdd, Nat.reduceMul, Nat.reduceSub, Int.reduceToNat, zy17, zy18, zy19, zy20, Nat.reduceLT, Nat.reduceLeDiff, zy21, zy22, zy23, zy24, zy25, zy26, Int.reduceAdd, Int.reduceMul, Int.reduceSub, Int.reduceNeg, Int.reduceDiv, Int.reduceMod, zy27, e3, e7, e8, e9, hc, wadd]
            refine ⟨_, by omega, k + 1, rfl, by omega, ?_, rfl⟩
            rw [wtVs_take _ _ hlt, Int.add_assoc]
          · have hk' : k = a.kids.length := by omega
            subst hk'
            rw [List.take_length] at e3
            simp (maxSteps := 10000000) (disch := first | assumption | omega | (simp only [zy19, zy17, zy18, zy34, zy35, zy36, zy11, zy12, rsL] <;> omega) | with_reducible exact rowOK_nil _ _ | ((repeat' apply rowOK_put) <;> first | assumption | exact rowP_ok _ _ _ _ _ | omega) | (simp only [rsI]; done)) only [↓rsW, ↓rsd, rsu, rsX, zyB, Int.reduceEq, ↓reduceIte, zy0, zy1, zy2, zy3, zy4, zy5, zy6, zy7, zy8, zy9, zy10, zy11, zy12, zy13, zy14, zy15, zy16, Nat.reduceEqDiff, Nat.reduceBEq, Nat.reduceAdd, Nat.reduceMul, Nat.reduceSub, Int.reduceToNat, zy17, zy18, zy19, zy20, Nat.reduceLT, Nat.reduceLeDiff, zy21, zy22, zy23, zy24, zy25, zy26, Int.reduceAdd, Int.reduceMul, Int.reduceSub, Int.reduceNeg, Int.reduceDiv, Int.reduceMod, zy27, e3, e7, e8, e9]
end Go.Proofs.Ytoccgkgdhobmfaa.Am.Ru
set_option maxRecDepth 100000
set_option linter.unusedSimpArgs false
set_option linter.unusedVariables false
namespace Go.Proofs.Ytoccgkgdhobmfaa.Am.Ru
open Go
variable {G : Nat → Option (List V)} {E : Nat → Option (CallFn → List V → Hp → Nat → Option Out)}
def okD (d : Dfn) : Prop := d.slots.length < 9223372036854775808 ∧ ∀ s ∈ d.slots, okT s.ty
def okDs (l : List Dfn) : Prop := l.length < 9223372036854775808 ∧ ∀ d ∈ l, okD d
theorem okT_z : okT Typ.z := by rw [okT_kids]; exact ⟨by decide, fun x hx => by cases hx⟩
theorem okD_z : okD Dfn.z := ⟨by decide, fun x hx => by cases hx⟩
theorem defOf_mem : ∀ {l : List Dfn} {i : Idn} {d : Dfn}, defOf l i = some d → d ∈ l ∧ d.id = i
  | [], i, d, h => by cases h
  | a :: l, i, d, h => by
    simp only [defOf] at h
    split at h
    · rename_i he; cases h; exact ⟨by simp, he⟩
    · obtain ⟨h1, h2⟩ := defOf_mem h; exact ⟨by simp [h1], h2⟩
theorem okD_def {l : List Dfn} (h : okDs l) (i : Idn) : okD (defD l i) := by
  unfold defD
  cases hd : defOf l i with
  | none => exact okD_z
  | some d => exact h.2 d (defOf_mem hd).1
theorem okT_getD {l : List Typ} (h : ∀ x ∈ l, okT x) (j : Nat) : okT (l.getD j Typ.z) := by
  by_cases hj : j < l.length
  · exact h _ (getD_mem l j Typ.z hj)
  · rw [List.getD_eq_getElem?_getD, List.getElem?_eq_none (by omega)]; exact okT_z
mutual
/-- A value that fits a type. -/
def fitV (l : List Dfn) : Val → Typ → Bool
  | .mk k n ks, t => vT l 24 t && (
      if t.kind = 0 then decide (k = 0) && (decide (ks.length = 0) && (decide (-1099511627776 ≤ n) && decide (n ≤ 1099511627776)))
      else if t.kind = 1 then decide (k = 1) && (decide (ks.length = 0) && (decide (n = 0) || decide (n = 1)))
      else if t.kind = 2 then decide (k = 4) && (decide (n = 0) && fitA l ks (t.kids.getD 0 Typ.z))
      else if (defD l t.ref).kind = 1 then decide (k = 3) && (decide (0 ≤ n) && (decide (n < (defD l t.ref).slots.length) && (decide (ks.length = 1) && fitA l ks ((defD l t.ref).slots.getD n.toNat Slt.z).ty)))
      else decide (k = 2) && (decide (n = 0) && (decide (ks.length = (defD l t.ref).slots.length) && fitZ l ks (defD l t.ref).slots)))
def fitA (l : List Dfn) : List Val → Typ → Bool
  | [], _ => true
  | a :: r, t => fitV l a t && fitA l r t
def fitZ (l : List Dfn) : List Val → List Slt → Bool
  | a :: r, s :: ss => fitV l a s.ty && fitZ l r ss
  | _, _ => true
end
theorem fitV_eq (l : List Dfn) (v : Val) (t : Typ) : fitV l v t = (vT l 24 t && (
      if t.kind = 0 then decide (v.kind = 0) && (decide (v.kids.length = 0) && (decide (-1099511627776 ≤ v.n) && decide (v.n ≤ 1099511627776)))
      else if t.kind = 1 then decide (v.kind = 1) && (decide (v.kids.length = 0) && (decide (v.n = 0) || decide (v.n = 1)))
      else if t.kind = 2 then decide (v.kind = 4) && (decide (v.n = 0) && fitA l v.kids (t.kids.getD 0 Typ.z))
      else if (defD l t.ref).kind = 1 then decide (v.kind = 3) && (decide (0 ≤ v.n) && (decide (v.n < (defD l t.ref).slots.length) && (decide (v.kids.length = 1) && fitA l v.kids ((defD l t.ref).slots.getD v.n.toNat Slt.z).ty)))
      else decide (v.kind = 2) && (decide (v.n = 0) && (decide (v.kids.length = (defD l t.ref).slots.length) && fitZ l v.kids (defD l t.ref).slots)))) := by
  cases v; simp only [fitV, Val.kind_mk, Val.n_mk, Val.kids_mk]
theorem fitA_nil (l : List Dfn) (t : Typ) : fitA l [] t = true := by simp only [fitA]
theorem fitA_cons (l : List Dfn) (a : Val) (r : List Val) (t : Typ) : fitA l (a :: r) t = (fitV l a t && fitA l r t) := by simp only [fitA]
theorem fitZ_nil (l : List Dfn) (s : List Slt) : fitZ l [] s = true := by simp only [fitZ]
theorem fitZ_cons (l : List Dfn) (a : Val) (r : List Val) (s : Slt) (ss : List Slt) : fitZ l (a :: r) (s :: ss) = (fitV l a s.ty && fitZ l r ss) := by simp only [fitZ]
theorem fitA_drop (l : List Dfn) (ks : List Val) (t : Typ) (k : Nat) (h : k < ks.length) : fitA l (ks.drop k) t = (fitV l (ks.getD k Val.z) t && fitA l (ks.drop (k + 1)) t) := by
  rw [drop_getD ks k Val.z h, fitA_cons]
theorem fitZ_drop (l : List Dfn) (ks : List Val) (s : List Slt) (k : Nat) (h : k < ks.length) (h' : k < s.length) : fitZ l (ks.drop k) (s.drop k) = (fitV l (ks.getD k Val.z) (s.getD k Slt.z).ty && fitZ l (ks.drop (k + 1)) (s.drop (k + 1))) := by
  rw [drop_getD ks k Val.z h, drop_getD s k Slt.z h', fitZ_cons]
theorem vT_list {l : List Dfn} {t : Typ} (h : vT l 24 t = true) (hk : t.kind = 2) : t.kids.length = 1 := by
  rw [vT_succ, if_pos hk] at h
  simp only [Bool.and_eq_true, decide_eq_true_eq] at h
  exact h.2.1
/-- The first element of which a closure says yes. -/
def idxF (q : Val → Bool) : List Val → Nat → Int
  | [], _ => -1
  | a :: l, k => if q a = true then (k : Int) else idxF q l (k + 1)
theorem idxF_drop (q : Val → Bool) (l : List Val) (k : Nat) (h : k < l.length) : idxF q (l.drop k) k = if q (l.getD k Val.z) = true then (k : Int) else idxF q (l.drop (k + 1)) (k + 1) := by
  rw [drop_getD l k Val.z h]; rfl
theorem idxF_any (q : Val → Bool) : ∀ (l : List Val) (k : Nat), (decide (0 ≤ idxF q l k)) = l.any q
  | [], k => rfl
  | a :: l, k => by
    by_cases h : q a = true
    · have e : idxF q (a :: l) k = (k : Int) := if_pos h
      rw [decide_eq_true (show 0 ≤ idxF q (a :: l) k by rw [e]; omega), List.any_cons, h]; rfl
    · have e : idxF q (a :: l) k = idxF q l (k + 1) := if_neg h
      rw [decide_eq_decide.2 (show 0 ≤ idxF q (a :: l) k ↔ 0 ≤ idxF q l (k + 1) by rw [e]), idxF_any q l (k + 1), List.any_cons]
      have h' : q a = false := by simpa using h
      rw [h']; rfl
theorem indexV_ok (hE : XOK E) (g : Nat) (c1 c2 : List V) (q : Val → Bool) (l : List Val) (hl : l.length < 9223372036854775808) (hg : ∀ x ∈ l, valP (cfW G T E) g [.agg x.row, .imp c1 0, .imp c2 0] = some (.ret (.bool (q x)))) :
    valP (cfW G T E) 141 [.sl 3 (Val.rows l), .fn g [.imp c1 0, .imp c2 0]] = some (.ret (.int .i64 (idxF q l 0))) := by
  refine xrun 6 (m := m141) hE rfl rfl rfl rfl ?_
  simp (maxSteps := 10000000) (disch := first | assumption | omega | (simp only [zy19, zy17, zy18, zy34, zy35, zy36, zy11, zy12, rsL] <;> omega) | with_reducible exact rowOK_nil _ _ | ((repeat' apply rowOK_put) <;> first | assumption | exact rowP_ok _ _ _ _ _ | omega) | (simp only [rsI]; done)) only [↓rsW, ↓rsd, rsu, rsX, zyB, Int.reduceEq, ↓reduceIte, zy0, zy1, zy2, zy3, zy4, zy5, zy6, zy7, zy8, zy9, zy10, zy11, zy12, zy13, zy14, zy15, zy16, Nat.reduceEqDiff, Nat.reduceBEq, Nat.reduceAdd, Nat.reduceMul, Nat.reduceSub, Int.reduceToNat, zy17, zy18, zy19, zy20, Nat.reduceLT, Nat.reduceLeDiff, zy21, zy22, zy23, zy24, zy25, zy26, Int.reduceAdd, Int.reduceMul, Int.reduceSub, Int.reduceNeg, Int.reduceDiv, Int.reduceMod, zy27, m141]
  refine go_loop2 6 (fun n s => ∃ k : Nat, n = l.length - k ∧ k ≤ l.length ∧ s.e 0 = .sl 3 (Val.rows l) ∧ s.e 1 = .fn g [.imp c1 0, .imp c2 0] ∧ s.e 7 = .int .i64 l.length ∧ s.e 8 = .int .i64 k ∧ idxF q (l.drop k) k = idxF q l 0) l.length ?_ ?_
  · refine ⟨0, rfl, by omega, ?_⟩
    simp (maxSteps := 10000000) (disch := first | assumption | omega | (simp only [zy19, zy17, zy18, zy34, zy35, zy36, zy11, zy12, rsL] <;> omega) | with_reducible exact rowOK_nil _ _ | ((repeat' apply rowOK_put) <;> first | assumption | exact rowP_ok _ _ _ _ _ | omega) | (simp only [rsI]; done)) only [↓rsW, ↓rsd, rsu, rsX, zyB, Int.reduceEq, ↓reduceIte, zy0, zy1, zy2, zy3, zy4, zy5, zy6, zy7, zy8, zy9, zy10, zy11, zy12, zy13, zy14, zy15, zy16, Nat.reduceEqDiff, Nat.reduceBEq, Nat.reduceAdd, Nat.reduceMul, Nat.reduceSub, Int.reduceToNat, zy17, zy18, zy19, zy20, Nat.reduceLT, Nat.reduceLeDiff, zy21, zy22, zy23, zy24, zy25, zy26, Int.reduceAdd, Int.reduceMul, Int.reduceSub, Int.reduceNeg, Int.reduceDiv, Int.reduceMod, zy27]
    first | rfl | exact ⟨rfl, rfl⟩ | exact ⟨rfl, rfl, rfl⟩ | exact ⟨rfl, rfl, rfl, rfl⟩ | exact ⟨rfl, rfl, rfl, rfl, rfl⟩ | exact ⟨rfl, rfl, rfl, rfl, rfl, rfl⟩
  · rintro n e o N ⟨k, hn, hk, e0, e1, e7, e8, hI⟩
    simp only at e0 e1 e7 e8
    by_cases hlt : k < l.length
    · rw [idxF_drop q l k hlt] at hI
      have hc := hg _ (getD_mem l k Val.z hlt)
      by_cases hq : q (l.getD k Val.z) = true
      · rw [if_pos hq] at hI
        simp (maxSteps := 10000000) (disch := first | assumption | omega | (simp only [zy19, zy17, zy18, zy34, zy35, zy36, zy11, zy12, rsL] <;> omega) | with_reducible exact rowOK_nil _ _ | ((repeat' apply rowOK_put) <;> first | assumption | exact rowP_ok _ _ _ _ _ | omega) | (simp only [rsI]; done)) only [↓rsW, ↓rsd, rsu, rsX, zyB, Int.reduceEq, ↓reduceIte, zy0, zy1, zy2, zy3, zy4, zy5, zy6, zy7, zy8, zy9, zy10, zy11, zy12, zy13, zy14, zy15, zy16, Nat.reduceEqDiff, Nat.reduceBEq, Nat.reduceAdd, Nat.reduceMul, Nat.reduceSub, Int.reduceToNat, zy17, zy18, zy19, zy20, Nat.reduceLT, Nat.reduceLeDiff, zy21, zy22, zy23, zy24, zy25, zy26, Int.reduceAdd, Int.reduceMul, Int.reduceSub, Int.reduceNeg, Int.reduceDiv, Int.reduceMod, zy27, e0, e1, e7, e8, hc, hq]
        rw [hI]
      · rw [if_neg hq] at hI
        have hq' : q (l.getD k Val.z) = false := by simpa using hq
        simp (maxSteps := 10000000) (disch := first | assumption | omega | (simp only [zy19, zy17, zy18, zy34, zy35, zy36, zy11, zy12, rsL] <;> omega) | with_reducible exact rowOK_nil _ _ | ((repeat' apply rowOK_put) <;> first | assumption | exact rowP_ok _ _ _ _ _ | omega) | (simp only [rsI]; done)) only [↓rsW, ↓rsd, rsu, rsX, zyB, Int.reduceEq, ↓reduceIte, zy0, zy1, zy2, zy3, zy4, zy5, zy6, zy7, zy8, zy9, zy10, zy11, zy12, zy13, zy14, zy15, zy16, Nat.reduceEqDiff, Nat.reduceBEq, Nat.reduceAdd, Nat.reduceMul, Nat.reduceSub, Int.reduceToNat, zy17, zy18, zy19, zy20, Nat.reduceLT, Nat.reduceLeDiff, zy21, zy22, zy23, zy24, zy25, zy26, Int.reduceAdd, Int.reduceMul, Int.reduceSub, Int.reduceNeg, Int.reduceDiv, Int.reduceMod, zy27, e0, e1, e7, e8, hc, hq']
        exact ⟨_, by omega, k + 1, rfl, by omega, rfl, hI⟩
    · have hk' : k = l.length := by omega
      subst hk'
      simp (maxSteps := 10000000) (disch := first | assumption | omega | (simp only [zy19, zy17, zy18, zy34, zy35, zy36, zy11, zy12, rsL] <;> omega) | with_reducible exact rowOK_nil _ _ | ((repeat' apply rowOK_put) <;> first | assumption | exact rowP_ok _ _ _ _ _ | omega) | (simp only [rsI]; done)) only [↓rsW, ↓rsd, rsu, rsX, zyB, Int.reduceEq, ↓reduceIte, zy0, zy1, zy2, zy3, zy4, zy5, zy6, zy7, zy8, zy9, zy10, zy11, zy12, zy13, zy14, zy15, zy16, Nat.reduceEqDiff, Nat.reduceBEq, Nat.reduceAdd, Nat.reduceMul, Nat.reduceSub, Int.reduceToNat, zy17, zy18, zy19, zy20, Nat.reduceLT, Nat.reduceLeDiff, zy21, zy22, zy23, zy24, zy25, zy26, Int.reduceAdd, Int.reduceMul, Int.reduceSub, Int.reduceNeg, Int.reduceDiv, Int.reduceMod, zy27, e0, e1, e7, e8]
      rw [← hI, List.drop_length]
      rfl
theorem geq_dec (q : IntKind) (a b : Int) : binV .geq (.int q a) (.int q b) = some (.bool (decide (b ≤ a))) := geq_d q a b
theorem containsV_ok (hE : XOK E) (g : Nat) (c1 c2 : List V) (q : Val → Bool) (l : List Val) (hl : l.length < 9223372036854775808) (hg : ∀ x ∈ l, valP (cfW G T E) g [.agg x.row, .imp c1 0, .imp c2 0] = some (.ret (.bool (q x)))) :
    valP (cfW G T E) 131 [.sl 3 (Val.rows l), .fn g [.imp c1 0, .imp c2 0]] = some (.ret (.bool (l.any q))) := by
  have hi := indexV_ok (G := G) hE g c1 c2 q l hl hg
  refine xrun 4 (m := m131) hE rfl rfl rfl rfl ?_
  simp (maxSteps := 10000000) (disch := first | assumption | omega | (simp only [zy19, zy17, zy18, zy34, zy35, zy36, zy11, zy12, rsL] <;> omega) | with_reducible exact rowOK_nil _ _ | ((repeat' apply rowOK_put) <;> first | assumption | exact rowP_ok _ _ _ _ _ | omega) | (simp only [rsI]; done)) only [↓rsW, ↓rsd, rsu, rsX, zyB, Int.reduceEq, ↓reduceIte, zy0, zy1, zy2, zy3, zy4, zy5, zy6, zy7, zy8, zy9, zy10, zy11, zy12, zy13, zy14, zy15, zy16, Nat.reduceEqDiff, Nat.reduceBEq, Nat.reduceAdd, Nat.reduceMul, Nat.reduceSub, Int.reduceToNat, zy17, zy18, zy19, zy20, Nat.reduceLT, Nat.reduceLeDiff, zy21, zy22, zy23, zy24, zy25, zy26, Int.reduceAdd, Int.reduceMul, Int.reduceSub, Int.reduceNeg, Int.reduceDiv, Int.reduceMod, zy27, m131, hi, geq_dec]
  simp only [idxF_any]
theorem fitA_any (d : List Dfn) (t : Typ) (l : List Val) : (!(l.any fun x => !fitV d x t)) = fitA d l t := by
  induction l with
  | nil => rw [fitA_nil]; rfl
  | cons a l ih => rw [fitA_cons, List.any_cons, ← ih]; cases fitV d a t <;> simp
set_option maxHeartbeats 1000000 in
theorem fits_ok (hE : XOK E) (p : Prg) (hp : okDs p.defs) : ∀ (v : Val) (t : Typ), okV' v → okT t → valP (cfW G T E) 93 [.agg p.row, .agg t.row, .agg v.row] = some (.ret (.bool (fitV p.defs v t))) := by
  refine Val.ind ?_
  intro v ih t hv ht
  rw [okV_kids] at hv
  have ht' := (okT_kids t).1 ht
  have hg : ∀ x ∈ v.kids, ∀ u, okT u → valP (cfW G T E) 93 [.agg p.row, .agg u.row, .agg x.row] = some (.ret (.bool (fitV p.defs x u))) := fun x hx u hu => ih x hx u (hv.2 x hx) hu
  have hvt := valid_ok (G := G) hE p t hp.1 ht
  rw [fitV_eq]
  refine xrun 11 (m := m93) hE rfl rfl rfl rfl ?_
  by_cases hva : vT p.defs 24 t = true
  · rw [hva] at hvt ⊢
    rw [Bool.true_and]
    by_cases k0 : t.kind = 0
    · rw [if_pos k0]
      by_cases v0 : v.kind = 0
      · by_cases vl : v.kids.length = 0
        · by_cases n1 : -1099511627776 ≤ v.n
          · by_cases n2 : v.n ≤ 1099511627776
            · simp (maxSteps := 10000000) (disch := first | assumption | omega | (simp only [zy19, zy17, zy18, zy34, zy35, zy36, zy11, zy12, rsL] <;> omega) | with_reducible exact rowOK_nil _ _ | ((repeat' apply rowOK_put) <;> first | assumption | exact rowP_ok _ _ _ _ _ | omega) | (simp only [rsI]; done)) only [↓rsW, ↓rsd, rsu, rsX, zyB, Int.reduceEq, ↓reduceIte, zy0, zy1, zy2, zy3, zy4, zy5, zy6, zy7, zy8, zy9, zy10, zy11, zy12, zy13, zy14, zy15, zy16, Nat.reduceEqDiff, Nat.reduceBEq, Nat.reduceAdd, Nat.reduceMul, Nat.reduceSub, Int.reduceToNat, zy17, zy18, zy19, zy20, Nat.reduceLT, Nat.reduceLeDiff, zy21, zy22, zy23, zy24, zy25, zy26, Int.reduceAdd, Int.reduceMul, Int.reduceSub, Int.reduceNeg, Int.reduceDiv, Int.reduceMod, zy27, m93, hvt, k0, v0, vl, n1, n2]
            · simp (maxSteps := 10000000) (disch := first | assumption | omega | (simp only [zy19, zy17, zy18, zy34, zy35, zy36, zy11, zy12, rsL] <;> omega) | with_reducible exact rowOK_nil _ _ | ((repeat' apply rowOK_put) <;> first | assumption | exact rowP_ok _ _ _ _ _ | omega) | (simp only [rsI]; done)) only [↓rsW, ↓rsd, rsu, rsX, zyB, Int.reduceEq, ↓reduceIte, zy0, zy1, zy2, zy3, zy4, zy5, zy6, zy7, zy8, zy9, zy10, zy11, zy12, zy13, zy14, zy15, zy16, Nat.reduceEqDiff, Nat.reduceBEq, Nat.reduceAdd, Nat.reduceMul, Nat.reduceSub, Int.reduceToNat, zy17, zy18, zy19, zy20, Nat.reduceLT, Nat.reduceLeDiff, zy21, zy22, zy23, zy24, zy25, zy26, Int.reduceAdd, Int.reduceMul, Int.reduceSub, Int.reduceNeg, Int.reduceDiv, Int.reduceMod, zy27, m93, hvt, k0, v0, vl, n1, n2]
          · simp (maxSteps := 10000000) (disch := first | assumption | omega | (simp only [zy19, zy17, zy18, zy34, zy35, zy36, zy11, zy12, rsL] <;> omega) | with_reducible exact rowOK_nil _ _ | ((repeat' apply rowOK_put) <;> first | assumption | exact rowP_ok _ _ _ _ _ | omega) | (simp only [rsI]; done)) only [↓rsW, ↓rsd, rsu, rsX, zyB, Int.reduceEq, ↓reduceIte, zy0, zy1, zy2, zy3, zy4, zy5, zy6, zy7, zy8, zy9, zy10, zy11, zy12, zy13, zy14, zy15, zy16, Nat.reduceEqDiff, Nat.reduceBEq, Nat.reduceAdd, Nat.reduceMul, Nat.reduceSub, Int.reduceToNat, zy17, zy18, zy19, zy20, Nat.reduceLT, Nat.reduceLeDiff, zy21, zy22, zy23, zy24, zy25, zy26, Int.reduceAdd, Int.reduceMul, Int.reduceSub, Int.reduceNeg, Int.reduceDiv, Int.reduceMod, zy27, m93, hvt, k0, v0, vl, n1]
        · have vl' : ¬ ((v.kids.length : Nat) : Int) = 0 := by omega
          simp (maxSteps := 10000000) (disch := first | assumption | omega | (simp only [zy19, zy17, zy18, zy34, zy35, zy36, zy11, zy12, rsL] <;> omega) | with_reducible exact rowOK_nil _ _ | ((repeat' apply rowOK_put) <;> first | assumption | exact rowP_ok _ _ _ _ _ | omega) | (simp only [rsI]; done)) only [↓rsW, ↓rsd, rsu, rsX, zyB, Int.reduceEq, ↓reduceIte, zy0, zy1, zy2, zy3, zy4, zy5, zy6, zy7, zy8, zy9, zy10, zy11, zy12, zy13, zy14, zy15, zy16, Nat.reduceEqDiff, Nat.reduceBEq, Nat.reduceAdd, Nat.reduceMul, Nat.reduceSub, Int.reduceToNat, zy17, zy18, zy19, zy20, Nat.reduceLT, Nat.reduceLeDiff, zy21, zy22, zy23, zy24, zy25, zy26, Int.reduceAdd, Int.reduceMul, Int.reduceSub, Int.reduceNeg, Int.reduceDiv, Int.reduceMod, zy27, m93, hvt, k0, v0, vl]
      · simp (maxSteps := 10000000) (disch := first | assumption | omega | (simp only [zy19, zy17, zy18, zy34, zy35, zy36, zy11, zy12, rsL] <;> omega) | with_reducible exact rowOK_nil _ _ | ((repeat' apply rowOK_put) <;> first | assumption | exact rowP_ok _ _ _ _ _ | omega) | (simp only [rsI]; done)) only [↓rsW, ↓rsd, rsu, rsX, zyB, Int.reduceEq, ↓reduceIte, zy0, zy1, zy2, zy3, zy4, zy5, zy6, zy7, zy8, zy9, zy10, zy11, zy12, zy13, zy14, zy15, zy16, Nat.reduceEqDiff, Nat.reduceBEq, Nat.reduceAdd, Nat.reduceMul, Nat.reduceSub, Int.reduceToNat, zy17, zy18, zy19, zy20, Nat.reduceLT, Nat.reduceLeDiff, zy21, zy22, zy23, zy24, zy25, zy26, Int.reduceAdd, Int.reduceMul, Int.reduceSub, Int.reduceNeg, Int.reduceDiv, Int.reduceMod, zy27, m93, hvt, k0, v0]
    · rw [if_neg k0]
      by_cases k1 : t.kind = 1
      · rw [if_pos k1]
        by_cases v0 : v.kind = 1
        · by_cases vl : v.kids.length = 0
          · by_cases n1 : v.n = 0
            · simp (maxSteps := 10000000) (disch := first | assumption | omega | (simp only [zy19, zy17, zy18, zy34, zy35, zy36, zy11, zy12, rsL] <;> omega) | with_reducible exact rowOK_nil _ _ | ((repeat' apply rowOK_put) <;> first | assumption | exact rowP_ok _ _ _ _ _ | omega) | (simp only [rsI]; done)) only [↓rsW, ↓rsd, rsu, rsX, zyB, Int.reduceEq, ↓reduceIte, zy0, zy1, zy2, zy3, zy4, zy5, zy6, zy7, zy8, zy9, zy10, zy11, zy12, zy13, zy14, zy15, zy16, Nat.reduceEqDiff, Nat.reduceBEq, Nat.reduceAdd, Nat.reduceMul, Nat.reduceSub, Int.reduceToNat, zy17, zy18, zy19, zy20, Nat.reduceLT, Nat.reduceLeDiff, zy21, zy22, zy23, zy24, zy25, zy26, Int.reduceAdd, Int.reduceMul, Int.reduceSub, Int.reduceNeg, Int.reduceDiv, Int.reduceMod, zy27, m93, hvt, k1, v0, vl, n1]
            · by_cases n2 : v.n = 1
              · simp (maxSteps := 10000000) (disch := first | assumption | omega | (simp only [zy19, zy17, zy18, zy34, zy35, zy36, zy11, zy12, rsL] <;> omega) | with_reducible exact rowOK_nil _ _ | ((repeat' apply rowOK_put) <;> first | assumption | exact rowP_ok _ _ _ _ _ | omega) | (simp only [rsI]; done)) only [↓rsW, ↓rsd, rsu, rsX, zyB, Int.reduceEq, ↓reduceIte, zy0, zy1, zy2, zy3, zy4, zy5, zy6, zy7, zy8, zy9, zy10, zy11, zy12, zy13, zy14, zy15, zy16, Nat.reduceEqDiff, Nat.reduceBEq, Nat.reduceAdd, Nat.reduceMul, Nat.reduceSub, Int.reduceToNat, zy17, zy18, zy19, zy20, Nat.reduceLT, Nat.reduceLeDiff, zy21, zy22, zy23, zy24, zy25, zy26, Int.reduceAdd, Int.reduceMul, Int.reduceSub, Int.reduceNeg, Int.reduceDiv, Int.reduceMod, zy27, m93, hvt, k1, v0, vl, n2]
              · simp (maxSteps := 10000000) (disch := first | assumption | omega | (simp only [zy19, zy17, zy18, zy34, zy35, zy36, zy11, zy12, rsL] <;> omega) | with_reducible exact rowOK_nil _ _ | ((repeat' apply rowOK_put) <;> first | assumption | exact rowP_ok _ _ _ _ _ | omega) | (simp only [rsI]; done)) only [↓rsW, ↓rsd, rsu, rsX, zyB, Int.reduceEq, ↓reduceIte, zy0, zy1, zy2, zy3, zy4, zy5, zy6, zy7, zy8, zy9, zy10, zy11, zy12, zy13, zy14, zy15, zy16, Nat.reduceEqDiff, Nat.reduceBEq, Nat.reduceAdd, Nat.reduceMul, Nat.reduceSub, Int.reduceToNat, zy17, zy18, zy19, zy20, Nat.reduceLT, Nat.reduceLeDiff, zy21, zy22, zy23, zy24, zy25, zy26, Int.reduceAdd, Int.reduceMul, Int.reduceSub, Int.reduceNeg, Int.reduceDiv, Int.reduceMod, zy27, m93, hvt, k1, v0, vl, n1, n2]
          · have vl' : ¬ ((v.kids.length : Nat) : Int) = 0 := by omega
            simp (maxSteps := 10000000) (disch := first | assumption | omega | (simp only [zy19, zy17, zy18, zy34, zy35, zy36, zy11, zy12, rsL] <;> omega) | with_reducible exact rowOK_nil _ _ | ((repeat' apply rowOK_put) <;> first | assumption | exact rowP_ok _ _ _ _ _ | omega) | (simp only [rsI]; done)) only [↓rsW, ↓rsd, rsu, rsX, zyB, Int.reduceEq, ↓reduceIte, zy0, zy1, zy2, zy3, zy4, zy5, zy6, zy7, zy8, zy9, zy10, zy11, zy12, zy13, zy14, zy15, zy16, Nat.reduceEqDiff, Nat.reduceBEq, Nat.reduceAdd, Nat.reduceMul, Nat.reduceSub, Int.reduceToNat, zy17, zy18, zy19, zy20, Nat.reduceLT, Nat.reduceLeDiff, zy21, zy22, zy23, zy24, zy25, zy26, Int.reduceAdd, Int.reduceMul, Int.reduceSub, Int.reduceNeg, Int.reduceDiv, Int.reduceMod, zy27, m93, hvt, k1, v0, vl]
        · simp (maxSteps := 10000000) (disch := first | assumption | omega | (simp only [zy19, zy17, zy18, zy34, zy35, zy36, zy11, zy12, rsL] <;> omega) | with_reducible exact rowOK_nil _ _ | ((repeat' apply rowOK_put) <;> first | assumption | exact rowP_ok _ _ _ _ _ | omega) | (simp only [rsI]; done)) only [↓rsW, ↓rsd, rsu, rsX, zyB, Int.reduceEq, ↓reduceIte, zy0, zy1, zy2, zy3, zy4, zy5, zy6, zy7, zy8, zy9, zy10, zy11, zy12, zy13, zy14, zy15, zy16, Nat.reduceEqDiff, Nat.reduceBEq, Nat.reduceAdd, Nat.reduceMul, Nat.reduceSub, Int.reduceToNat, zy17, zy18, zy19, zy20, Nat.reduceLT, Nat.reduceLeDiff, zy21, zy22, zy23, zy24, zy25, zy26, Int.reduceAdd, Int.reduceMul, Int.reduceSub, Int.reduceNeg, Int.reduceDiv, Int.reduceMod, zy27, m93, hvt, k1, v0]
      · rw [if_neg k1]
        by_cases k2 : t.kind = 2
        · rw [if_pos k2]
          have htl := vT_list hva k2
          have h0 : okT (t.kids.getD 0 Typ.z) := okT_getD ht'.2 0
          have hf : ∀ x ∈ v.kids, valP (cfW G T E) 133 [.agg x.row, .imp p.row 0, .imp t.row 0] = some (.ret (.bool (!fitV p.defs x (t.kids.getD 0 Typ.z)))) := by
            intro x hx
            have hc := hg x hx _ h0
            refine xrun 4 (m := m133) hE rfl rfl rfl rfl ?_
            simp (maxSteps := 10000000) (disch := first | assumption | omega | (simp only [zy19, zy17, zy18, zy34, zy35, zy36, zy11, zy12, rsL] <;> omega) | with_reducible exact rowOK_nil _ _ | ((repeat' apply rowOK_put) <;> first | assumption | exact rowP_ok _ _ _ _ _ | omega) | (simp only [rsI]; done)) only [↓rsW, ↓rsd, rsu, rsX, zyB, Int.reduceEq, ↓reduceIte, zy0, zy1, zy2, zy3, zy4, zy5, zy6, zy7, zy8, zy9, zy10, zy11, zy12, zy13, zy14, zy15, zy16, Nat.reduceEqDiff, Nat.reduceBEq, Nat.reduceAdd, Nat.reduceMul, Nat.reduceSub, Int.reduceToNat, zy17, zy18, zy19, zy20, Nat.reduceLT, Nat.reduceLeDiff, zy21, zy22, zy23, zy24, zy25, zy26, Int.reduceAdd, Int.reduceMul, Int.reduceSub, Int.reduceNeg, Int.reduceDiv, Int.reduceMod, zy27, m133, hc]
          have hcf := containsV_ok (G := G) hE 133 p.row t.row (fun x => !fitV p.defs x (t.kids.getD 0 Typ.z)) v.kids hv.1 hf
          by_cases v0 : v.kind = 4
          · by_cases n1 : v.n = 0
            · simp (maxSteps := 10000000) (disch := first | assumption | omega | (simp only [zy19, zy17, zy18, zy34, zy35, zy36, zy11, zy12, rsL] <;> omega) | with_reducible exact rowOK_nil _ _ | ((repeat' apply rowOK_put) <;> first | assumption | exact rowP_ok _ _ _ _ _ | omega) | (simp only [rsI]; done)) only [↓rsW, ↓rsd, rsu, rsX, zyB, Int.reduceEq, ↓reduceIte, zy0, zy1, zy2, zy3, zy4, zy5, zy6, zy7, zy8, zy9, zy10, zy11, zy12, zy13, zy14, zy15, zy16, Nat.reduceEqDiff, Nat.reduceBEq, Nat.reduceAdd, Nat.reduceMul, Nat.reduceSub, Int.reduceToNat, zy17, zy18, zy19, zy20, Nat.reduceLT, Nat.reduceLeDiff, zy21, zy22, zy23, zy24, zy25, zy26, Int.reduceAdd, Int.reduceMul, Int.reduceSub, Int.reduceNeg, Int.reduceDiv, Int.reduceMod, zy27, m93, hvt, k0, k1, k2, v0, n1, hcf]
              rw [fitA_any]
            · simp (maxSteps := 10000000) (disch := first | assumption | omega | (simp only [zy19, zy17, zy18, zy34, zy35, zy36, zy11, zy12, rsL] <;> omega) | with_reducible exact rowOK_nil _ _ | ((repeat' apply rowOK_put) <;> first | assumption | exact rowP_ok _ _ _ _ _ | omega) | (simp only [rsI]; done)) only [↓rsW, ↓rsd, rsu, rsX, zyB, Int.reduceEq, ↓reduceIte, zy0, zy1, zy2, zy3, zy4, zy5, zy6, zy7, zy8, zy9, zy10, zy11, zy12, zy13, zy14, zy15, zy16, Nat.reduceEqDiff, Nat.reduceBEq, Nat.reduceAdd, Nat.reduceMul, Nat.reduceSub, Int.reduceToNat, zy17, zy18, zy19, zy20, Nat.reduceLT, Nat.reduceLeDiff, zy21, zy22, zy23, zy24, zy25, zy26, Int.reduceAdd, Int.reduceMul, Int.reduceSub, Int.reduceNeg, Int.reduceDiv, Int.reduceMod, zy27, m93, hvt, k0, k1, k2, v0, n1]
          · simp (maxSteps := 10000000) (disch := first | assumption | omega | (simp only [zy19, zy17, zy18, zy34, zy35, zy36, zy11, zy12, rsL] <;> omega) | with_reducible exact rowOK_nil _ _ | ((repeat' apply rowOK_put) <;> first | assumption | exact rowP_ok _ _ _ _ _ | omega) | (simp only [rsI]; done)) only [↓rsW, ↓rsd, rsu, rsX, zyB, Int.reduceEq, ↓reduceIte, zy0, zy1, zy2, zy3, zy4, zy5, zy6, zy7, zy8, zy9, zy10, zy11, zy12, zy13, zy14, zy15, zy16, Nat.reduceEqDiff, Nat.reduceBEq, Nat.reduceAdd, Nat.reduceMul, Nat.reduceSub, Int.reduceToNat, zy17, zy18, zy19, zy20, Nat.reduceLT, Nat.reduceLeDiff, zy21, zy22, zy23, zy24, zy25, zy26, Int.reduceAdd, Int.reduceMul, Int.reduceSub, Int.reduceNeg, Int.reduceDiv, Int.reduceMod, zy27, m93, hvt, k0, k1, k2, v0]
        · rw [if_neg k2]
          have hd := def_ok (G := G) hE p t.ref hp.1
          have hok := okD_def hp t.ref
          generalize defD p.defs t.ref = d at hd hok ⊢
          by_cases d1 : d.kind = 1
          · rw [if_pos d1]
            by_cases v0 : v.kind = 3
            · by_cases n1 : 0 ≤ v.n
              · by_cases n2 : v.n < (d.slots.length : Int)
                · by_cases vl : v.kids.length = 1
                  · have hin : v.kids.getD 0 Val.z ∈ v.kids := getD_mem _ _ _ (by omega)
                    have hs : okT (d.slots.getD v.n.toNat Slt.z).ty := hok.2 _ (getD_mem _ _ _ (by omega))
                    have hc := hg _ hin _ hs
                    have hA : fitA p.defs v.kids (d.slots.getD v.n.toNat Slt.z).ty = fitV p.defs (v.kids.getD 0 Val.z) (d.slots.getD v.n.toNat Slt.z).ty := by
                      have := fitA_drop p.defs v.kids (d.slots.getD v.n.toNat Slt.z).ty 0 (by omega)
                      rw [List.drop_zero, List.drop_eq_nil_of_le (by omega), fitA_nil, Bool.and_true] at this
                      exact this
                    have hle : v.n.toNat < d.slots.length := by omega
                    simp (maxSteps := 10000000) (disch := first | assumption | omega | (simp only [zy19, zy17, zy18, zy34, zy35, zy36, zy11, zy12, rsL] <;> omega) | with_reducible exact rowOK_nil _ _ | ((repeat' apply rowOK_put) <;> first | assumption | exact rowP_ok _ _ _ _ _ | omega) | (simp only [rsI]; done)) only [↓rsW, ↓rsd, rsu, rsX, zyB, Int.reduceEq, ↓reduceIte, zy0, zy1, zy2, zy3, zy4, zy5, zy6, zy7, zy8, zy9, zy10, zy11, zy12, zy13, zy14, zy15, zy16, Nat.reduceEqDiff, Nat.reduceBEq, Nat.reduceAdd, Nat.reduceMul, Nat.reduceSub, Int.reduceToNat, zy17, zy18, zy19, zy20, Nat.reduceLT, Nat.reduceLeDiff, zy21, zy22, zy23, zy24, zy25, zy26, Int.reduceAdd, Int.reduceMul, Int.reduceSub, Int.reduceNeg, Int.reduceDiv, Int.reduceMod, zy27, m93, hvt, k0, k1, k2, hd, d1, v0, n1, n2, vl, hc]
                    rw [hA]
                  · have vl' : ¬ ((v.kids.length : Nat) : Int) = 1 := by omega
                    simp (maxSteps := 10000000) (disch := first | assumption | omega | (simp only [zy19, zy17, zy18, zy34, zy35, zy36, zy11, zy12, rsL] <;> omega) | with_reducible exact rowOK_nil _ _ | ((repeat' apply rowOK_put) <;> first | assumption | exact rowP_ok _ _ _ _ _ | omega) | (simp only [rsI]; done)) only [↓rsW, ↓rsd, rsu, rsX, zyB, Int.reduceEq, ↓reduceIte, zy0, zy1, zy2, zy3, zy4, zy5, zy6, zy7, zy8, zy9, zy10, zy11, zy12, zy13, zy14, zy15, zy16, Nat.reduceEqDiff, Nat.reduceBEq, Nat.reduceAdd, Nat.reduceMul, Nat.reduceSub, Int.reduceToNat, zy17, zy18, zy19, zy20, Nat.reduceLT, Nat.reduceLeDiff, zy21, zy22, zy23, zy24, zy25, zy26, Int.reduceAdd, Int.reduceMul, Int.reduceSub, Int.reduceNeg, Int.reduceDiv, Int.reduceMod, zy27, m93, hvt, k0, k1, k2, hd, d1, v0, n1, n2, vl]
                · simp (maxSteps := 10000000) (disch := first | assumption | omega | (simp only [zy19, zy17, zy18, zy34, zy35, zy36, zy11, zy12, rsL] <;> omega) | with_reducible exact rowOK_nil _ _ | ((repeat' apply rowOK_put) <;> first | assumption | exact rowP_ok _ _ _ _ _ | omega) | (simp only [rsI]; done)) only [↓rsW, ↓rsd, rsu, rsX, zyB, Int.reduceEq, ↓reduceIte, zy0, zy1, zy2, zy3, zy4, zy5, zy6, zy7, zy8, zy9, zy10, zy11, zy12, zy13, zy14, zy15, zy16, Nat.reduceEqDiff, Nat.reduceBEq, Nat.reduceAdd, Nat.reduceMul, Nat.reduceSub, Int.reduceToNat, zy17, zy18, zy19, zy20, Nat.reduceLT, Nat.reduceLeDiff, zy21, zy22, zy23, zy24, zy25, zy26, Int.reduceAdd, Int.reduceMul, Int.reduceSub, Int.reduceNeg, Int.reduceDiv, Int.reduceMod, zy27, m93, hvt, k0, k1, k2, hd, d1, v0, n1, n2]
              · simp (maxSteps := 10000000) (disch := first | assumption | omega | (simp only [zy19, zy17, zy18, zy34, zy35, zy36, zy11, zy12, rsL] <;> omega) | with_reducible exact rowOK_nil _ _ | ((repeat' apply rowOK_put) <;> first | assumption | exact rowP_ok _ _ _ _ _ | omega) | (simp only [rsI]; done)) only [↓rsW, ↓rsd, rsu, rsX, zyB, Int.reduceEq, ↓reduceIte, zy0, zy1, zy2, zy3, zy4, zy5, zy6, zy7, zy8, zy9, zy10, zy11, zy12, zy13, zy14, zy15, zy16, Nat.reduceEqDiff, Nat.reduceBEq, Nat.reduceAdd, Nat.reduceMul, Nat.reduceSub, Int.reduceToNat, zy17, zy18, zy19, zy20, Nat.reduceLT, Nat.reduceLeDiff, zy21, zy22, zy23, zy24, zy25, zy26, Int.reduceAdd, Int.reduceMul, Int.reduceSub, Int.reduceNeg, Int.reduceDiv, Int.reduceMod, zy27, m93, hvt, k0, k1, k2, hd, d1, v0, n1]
            · simp (maxSteps := 10000000) (disch := first | assumption | omega | (simp only [zy19, zy17, zy18, zy34, zy35, zy36, zy11, zy12, rsL] <;> omega) | with_reducible exact rowOK_nil _ _ | ((repeat' apply rowOK_put) <;> first | assumption | exact rowP_ok _ _ _ _ _ | omega) | (simp only [rsI]; done)) only [↓rsW, ↓rsd, rsu, rsX, zyB, Int.reduceEq, ↓reduceIte, zy0, zy1, zy2, zy3, zy4, zy5, zy6, zy7, zy8, zy9, zy10, zy11, zy12, zy13, zy14, zy15, zy16, Nat.reduceEqDiff, Nat.reduceBEq, Nat.reduceAdd, Nat.reduceMul, Nat.reduceSub, Int.reduceToNat, zy17, zy18, zy19, zy20, Nat.reduceLT, Nat.reduceLeDiff, zy21, zy22, zy23, zy24, zy25, zy26, Int.reduceAdd, Int.reduceMul, Int.reduceSub, Int.reduceNeg, Int.reduceDiv, Int.reduceMod, zy27, m93, hvt, k0, k1, k2, hd, d1, v0]
          · rw [if_neg d1]
            by_cases v0 : v.kind = 2
            · by_cases n1 : v.n = 0
              · by_cases vl : v.kids.length = d.slots.length
                · have vl' : ((v.kids.length : Nat) : Int) = (d.slots.length : Nat) := by rw [vl]
                  have hs1 := hok.1
                  simp (maxSteps := 10000000) (disch := first | assumption | omega | (simp only [zy19, zy17, zy18, zy34, zy35, zy36, zy11, zy12, rsL] <;> omega) | with_reducible exact rowOK_nil _ _ | ((repeat' apply rowOK_put) <;> first | assumption | exact rowP_ok _ _ _ _ _ | omega) | (simp only [rsI]; done)) only [↓rsW, ↓rsd, rsu, rsX, zyB, Int.reduceEq, ↓reduceIte, zy0, zy1, zy2, zy3, zy4, zy5, zy6, zy7, zy8, zy9, zy10, zy11, zy12, zy13, zy14, zy15, zy16, Nat.reduceEqDiff, Nat.reduceBEq, Nat.reduceAdd, Nat.reduceMul, Nat.reduceSub, Int.reduceToNat, zy17, zy18, zy19, zy20, Nat.reduceLT, Nat.reduceLeDiff, zy21, zy22, zy23, zy24, zy25, zy26, Int.reduceAdd, Int.reduceMul, Int.reduceSub, Int.reduceNeg, Int.reduceDiv, Int.reduceMod, zy27, m93, hvt, k0, k1, k2, hd, d1, v0, n1]
                  refine go_loop2 11 (fun n s => ∃ k : Nat, n = v.kids.length - k ∧ k ≤ v.kids.length ∧ 4 ≤ s.N ∧ s.e 3 = .ptr 0 0 ∧ s.e 7 = .ptr 3 0 ∧ s.e 141 = .sl 3 (Val.rows v.kids) ∧ s.e 142 = .int .i64 v.kids.length ∧ s.e 143 = .int .i64 k ∧ s.o 0 = .box p.row ∧ s.o 3 = .box d.row ∧ fitZ p.defs (v.kids.drop k) (d.slots.drop k) = fitZ p.defs v.kids d.slots) v.kids.length ?_ ?_
                  · refine ⟨0, rfl, by omega, ?_⟩
                    simp (maxSteps := 10000000) (disch := first | assumption | omega | (simp only [zy19, zy17, zy18, zy34, zy35, zy36, zy11, zy12, rsL] <;> omega) | with_reducible exact rowOK_nil _ _ | ((repeat' apply rowOK_put) <;> first | assumption | exact rowP_ok _ _ _ _ _ | omega) | (simp only [rsI]; done)) only [↓rsW, ↓rsd, rsu, rsX, zyB, Int.reduceEq, ↓reduceIte, zy0, zy1, zy2, zy3, zy4, zy5, zy6, zy7, zy8, zy9, zy10, zy11, zy12, zy13, zy14, zy15, zy16, Nat.reduceEqDiff, Nat.reduceBEq, Nat.reduceAdd, Nat.reduceMul, Nat.reduceSub, Int.reduceToNat, zy17, zy18, zy19, zy20, Nat.reduceLT, Nat.reduceLeDiff, zy21, zy22, zy23, zy24, zy25, zy26, Int.reduceAdd, Int.reduceMul, Int.reduceSub, Int.reduceNeg, Int.reduceDiv, Int.reduceMod, zy27]
                    first | rfl | exact ⟨rfl, rfl⟩ | exact ⟨rfl, rfl, rfl⟩ | exact ⟨rfl, rfl, rfl, rfl⟩ | exact ⟨rfl, rfl, rfl, rfl, rfl⟩ | exact ⟨rfl, rfl, rfl, rfl, rfl, rfl⟩
                  · rintro n e o N ⟨k, hn, hk, hN, e3, e7, e141, e142, e143, o0, o3, hI⟩
                    simp only at hN e3 e7 e141 e142 e143 o0 o3
                    have n0 : ¬ (0 = N) := by omega
                    have n3 : ¬ (3 = N) := by omega
                    by_cases hlt : k < v.kids.length
                    · have hlt' : k < d.slots.length := by omega
                      rw [fitZ_drop _ _ _ k hlt hlt'] at hI
                      have hc := hg _ (getD_mem v.kids k Val.z hlt) _ (hok.2 _ (getD_mem d.slots k Slt.z hlt'))
                      generalize fitV p.defs (v.kids.getD k Val.z) (d.slots.getD k Slt.z).ty = q at hI hc
                      cases q
                      · simp (maxSteps := 10000000) (disch := first | assumption | omega | (simp only [zy19, zy17, zy18, zy34, zy35, zy36, zy11, zy12, rsL] <;> omega) | with_reducible exact rowOK_nil _ _ | ((repeat' apply rowOK_put) <;> first | assumption | exact rowP_ok _ _ _ _ _ | omega) | (simp only [rsI]; done)) only [↓rsW, ↓rsd, rsu, rsX, zyB, Int.reduceEq, ↓reduceIte, zy0, zy1, zy2, zy3, zy4, zy5, zy6, zy7, zy8, zy9, zy10, zy11, zy12, zy13, zy14, zy15, zy16, Nat.reduceEqDiff, Nat.reduceBEq, Nat.reduceAdd, Nat.reduceMul, Nat.reduceSub, Int.reduceToNat, zy17, zy18, zy19, zy20, Nat.reduceLT, Nat.reduceLeDiff, zy21, zy22, zy23, zy24, zy25, zy26, Int.reduceAdd, Int.reduceMul, Int.reduceSub, Int.reduceNeg, Int.reduceDiv, Int.reduceMod, zy27, e3, e7, e141, e142, e143, o0, o3, hc, n0, n3]
                        rw [← hI, vl]; simp
                      · simp (maxSteps := 10000000) (disch := first | assumption | omega | (simp only [zy19, zy17, zy18, zy34, zy35, zy36, zy11, zy12, rsL] <;> omega) | with_reducible exact rowOK_nil _ _ | ((repeat' apply rowOK_put) <;> first | assumption | exact rowP_ok _ _ _ _ _ | omega) | (simp only [rsI]; done)) only [↓rsW, ↓rsd, rsu, rsX, zyB, Int.reduceEq, ↓reduceIte, zy0, zy1, zy2, zy3, zy4, zy5, zy6, zy7, zy8, zy9, zy10, zy11, zy12, zy13, zy14, zy15, zy16, Nat.reduceEqDiff, Nat.reduceBEq, Nat.reduceAdd, Nat.reduceMul, Nat.reduceSub, Int.reduceToNat, zy17, zy18, zy19, zy20, Nat.reduceLT, Nat.reduceLeDiff, zy21, zy22, zy23, zy24, zy25, zy26, Int.reduceAdd, Int.reduceMul, Int.reduceSub, Int.reduceNeg, Int.reduceDiv, Int.reduceMod, zy27, e3, e7, e141, e142, e143, o0, o3, hc, n0, n3]
                        exact ⟨_, by omega, k + 1, rfl, by omega, by omega, rfl, by simpa using hI⟩
                    · have hk' : k = v.kids.length := by omega
                      subst hk'
                      rw [List.drop_length, fitZ_nil] at hI
                      simp (maxSteps := 10000000) (disch := first | assumption | omega | (simp only [zy19, zy17, zy18, zy34, zy35, zy36, zy11, zy12, rsL] <;> omega) | with_reducible exact rowOK_nil _ _ | ((repeat' apply rowOK_put) <;> first | assumption | exact rowP_ok _ _ _ _ _ | omega) | (simp only [rsI]; done)) only [↓rsW, ↓rsd, rsu, rsX, zyB, Int.reduceEq, ↓reduceIte, zy0, zy1, zy2, zy3, zy4, zy5, zy6, zy7, zy8, zy9, zy10, zy11, zy12, zy13, zy14, zy15, zy16, Nat.reduceEqDiff, Nat.reduceBEq, Nat.reduceAdd, Nat.reduceMul, Nat.reduceSub, Int.reduceToNat, zy17, zy18, zy19, zy20, Nat.reduceLT, Nat.reduceLeDiff, zy21, zy22, zy23, zy24, zy25, zy26, Int.reduceAdd, Int.reduceMul, Int.reduceSub, Int.reduceNeg, Int.reduceDiv, Int.reduceMod, zy27, e3, e7, e141, e142, e143, o0, o3]
                      rw [← hI, vl]; simp
                · have vl' : ¬ ((v.kids.length : Nat) : Int) = (d.slots.length : Nat) := by omega
                  have hs1 := hok.1
                  simp (maxSteps := 10000000) (disch := first | assumption | omega | (simp only [zy19, zy17, zy18, zy34, zy35, zy36, zy11, zy12, rsL] <;> omega) | with_reducible exact rowOK_nil _ _ | ((repeat' apply rowOK_put) <;> first | assumption | exact rowP_ok _ _ _ _ _ | omega) | (simp only [rsI]; done)) only [↓rsW, ↓rsd, rsu, rsX, zyB, Int.reduceEq, ↓reduceIte, zy0, zy1, zy2, zy3, zy4, zy5, zy6, zy7, zy8, zy9, zy10, zy11, zy12, zy13, zy14, zy15, zy16, Nat.reduceEqDiff, Nat.reduceBEq, Nat.reduceAdd, Nat.reduceMul, Nat.reduceSub, Int.reduceToNat, zy17, zy18, zy19, zy20, Nat.reduceLT, Nat.reduceLeDiff, zy21, zy22, zy23, zy24, zy25, zy26, Int.reduceAdd, Int.reduceMul, Int.reduceSub, Int.reduceNeg, Int.reduceDiv, Int.reduceMod, zy27, m93, hvt, k0, k1, k2, hd, d1, v0, n1, vl]
              · simp (maxSteps := 10000000) (disch := first | assumption | omega | (simp only [zy19, zy17, zy18, zy34, zy35, zy36, zy11, zy12, rsL] <;> omega) | with_reducible exact rowOK_nil _ _ | ((repeat' apply rowOK_put) <;> first | assumption | exact rowP_ok _ _ _ _ _ | omega) | (simp only [rsI]; done)) only [↓rsW, ↓rsd, rsu, rsX, zyB, Int.reduceEq, ↓reduceIte, zy0, zy1, zy2, zy3, zy4, zy5, zy6, zy7, zy8, zy9, zy10, zy11, zy12, zy13, zy14, zy15, zy16, Nat.reduceEqDiff, Nat.reduceBEq, Nat.reduceAdd, Nat.reduceMul, Nat.reduceSub, Int.reduceToNat, zy17, zy18, zy19, zy20, Nat.reduceLT, Nat.reduceLeDiff, zy21, zy22, zy23, zy24, zy25, zy26, Int.reduceAdd, Int.reduceMul, Int.reduceSub, Int.reduceNeg, Int.reduceDiv, Int.reduceMod, zy27, m93, hvt, k0, k1, k2, hd, d1, v0, n1]
            · simp (maxSteps := 10000000) (disch := first | assumption | omega | (simp only [zy19, zy17, zy18, zy34, zy35, zy36, zy11, zy12, rsL] <;> omega) | with_reducible exact rowOK_nil _ _ | ((repeat' apply rowOK_put) <;> first | assumption | exact rowP_ok _ _ _ _ _ | omega) | (simp only [rsI]; done)) only [↓rsW, ↓rsd, rsu, rsX, zyB, Int.reduceEq, ↓reduceIte, zy0, zy1, zy2, zy3, zy4, zy5, zy6, zy7, zy8, zy9, zy10, zy11, zy12, zy13, zy14, zy15, zy16, Nat.reduceEqDiff, Nat.reduceBEq, Nat.reduceAdd, Nat.reduceMul, Nat.reduceSub, Int.reduceToNat, zy17, zy18, zy19, zy20, Nat.reduceLT, Nat.reduceLeDiff, zy21, zy22, zy23, zy24, zy25, zy26, Int.reduceAdd, Int.reduceMul, Int.reduceSub, Int.reduceNeg, Int.reduceDiv, Int.reduceMod, zy27, m93, hvt, k0, k1, k2, hd, d1, v0]
  · have hva' : vT p.defs 24 t = false := by simpa using hva
    rw [hva'] at hvt ⊢
    rw [Bool.false_and]
    simp (maxSteps := 10000000) (disch := first | assumption | omega | (simp only [zy19, zy17, zy18, zy34, zy35, zy36, zy11, zy12, rsL] <;> omega) | with_reducible exact rowOK_nil _ _ | ((repeat' apply rowOK_put) <;> first | assumption | exact rowP_ok _ _ _ _ _ | omega) | (simp only [rsI]; done)) only [↓rsW, ↓rsd, rsu, rsX, zyB, Int.reduceEq, ↓reduceIte, zy0, zy1, zy2, zy3, zy4, zy5, zy6, zy7, zy8, zy9, zy10, zy11, zy12, zy13, zy14, zy15, zy16, Nat.reduceEqDiff, Nat.reduceBEq, Nat.reduceAdd, Nat.reduceMul, Nat.reduceSub, Int.reduceToNat, zy17, zy18, zy19, zy20, Nat.reduceLT, Nat.reduceLeDiff, zy21, zy22, zy23, zy24, zy25, zy26, Int.reduceAdd, Int.reduceMul, Int.reduceSub, Int.reduceNeg, Int.reduceDiv, Int.reduceMod, zy27, m93, hvt]
end Go.Proofs.Ytoccgkgdhobmfaa.Am.Ru
set_option maxRecDepth 100000
set_option linter.unusedSimpArgs false
set_option linter.unusedVariables false
namespace Go.Proofs.Ytoccgkgdhobmfaa.Am.Ru
open Go
variable {G : Nat → Option (List V)} {E : Nat → Option (CallFn → List V → Hp → Nat → Option Out)}
end Go.Proofs.Ytoccgkgdhobmfaa.Am.Ru
set_option maxRecDepth 100000
set_option linter.unusedSimpArgs false
set_option linter.unusedVariables false
namespace Go.Proofs.Ytoccgkgdhobmfaa.Am.Ru
open Go
variable {G : Nat → Option (List V)} {E : Nat → Option (CallFn → List V → Hp → Nat → Option Out)}
mutual
/-- A visit: whether all nodes were within the limits, and how many are left. -/
def visV : Val → Int → Int → Bool × Int
  | .mk _ _ ks, d, l => if 0 ≤ l - 1 ∧ d ≤ 24 then visVs ks (d + 1) (l - 1) else (false, l - 1)
def visVs : List Val → Int → Int → Bool × Int
  | [], _, l => (true, l)
  | a :: r, d, l => if (visV a d l).1 = true then visVs r d (visV a d l).2 else (false, (visV a d l).2)
end
theorem visV_eq (v : Val) (d l : Int) : visV v d l = if 0 ≤ l - 1 ∧ d ≤ 24 then visVs v.kids (d + 1) (l - 1) else (false, l - 1) := by cases v; simp only [visV, Val.kids_mk]
theorem visVs_nil (d l : Int) : visVs [] d l = (true, l) := by simp only [visVs]
theorem visVs_cons (a : Val) (r : List Val) (d l : Int) : visVs (a :: r) d l = if (visV a d l).1 = true then visVs r d (visV a d l).2 else (false, (visV a d l).2) := by simp only [visVs]
theorem visV_le : ∀ (v : Val) (d l : Int), 0 ≤ l → -1 ≤ (visV v d l).2 ∧ (visV v d l).2 ≤ l ∧ ((visV v d l).1 = true → 0 ≤ (visV v d l).2) := by
  refine Val.ind ?_
  intro v ih d l hl
  rw [visV_eq]
  split
  · rename_i h
    have key : ∀ ks : List Val, (∀ x ∈ ks, x ∈ v.kids) → ∀ l : Int, 0 ≤ l → -1 ≤ (visVs ks (d + 1) l).2 ∧ (visVs ks (d + 1) l).2 ≤ l ∧ ((visVs ks (d + 1) l).1 = true → 0 ≤ (visVs ks (d + 1) l).2) := by
      intro ks
      induction ks with
      | nil => intro _ l hl; rw [visVs_nil]; exact ⟨by simp; omega, by simp, fun _ => hl⟩
      | cons a r ihr =>
        intro hm l hl
        have ha := ih a (hm a (by simp)) (d + 1) l hl
        rw [visVs_cons]
        split
        · rename_i hb
          have := ihr (fun x hx => hm x (by simp [hx])) _ (ha.2.2 hb)
          exact ⟨this.1, by omega, this.2.2⟩
        · exact ⟨ha.1, ha.2.1, fun h => by cases h⟩
    have := key v.kids (fun _ h => h) (l - 1) h.1
    exact ⟨this.1, by omega, this.2.2⟩
  · exact ⟨by simp; omega, by simp; omega, fun h => by cases h⟩
abbrev visFn (i j : Nat) : AObj := .box [.fn 130 [.ptr i 0, .ptr j 0]]
def VisOk (cf : CallFn) (v : Val) : Prop := ∀ (d l : Int) (i j N : Nat), i ≠ j → i < N → j < N → 0 ≤ l → l ≤ 256 → 1 ≤ d → d ≤ 25 →
  valW cf 130 [.agg v.row, .int .i64 d, .ptr i 0, .ptr j 0] (hl [(j, visFn i j), (i, .box [.int .i64 l])]) N [j, i] = some (.ret (.bool (visV v d l).1), [visFn i j, .box [.int .i64 (visV v d l).2]])
theorem small11_ok (hE : XOK E) (v : Val) (hv : VisOk (cfW G T E) v) (d l : Int) (i j k N : Nat) (hij : i ≠ j) (hik : i ≠ k) (hjk : j ≠ k) (hi : i < N) (hj : j < N) (hk : k < N) (h0 : 0 ≤ l) (h1 : l ≤ 256) (h2 : 1 ≤ d) (h3 : d ≤ 24) :
    valW (cfW G T E) 132 [.agg v.row, .ptr j 0, .ptr k 0] (hl [(k, .box [.int .i64 d]), (i, .box [.int .i64 l]), (j, visFn i j)]) N [k, i, j] =
      some (.ret (.bool (!(visV v (d + 1) l).1)), [.box [.int .i64 d], .box [.int .i64 (visV v (d + 1) l).2], visFn i j]) := by
  have hc := hv (d + 1) l i j (N + 1) hij (by omega) (by omega) h0 h1 (by omega) (by omega)
  have a1 : ¬ (i = j) := hij
  have a2 : ¬ (j = i) := fun h => hij h.symm
  have a3 : ¬ (i = k) := hik
  have a4 : ¬ (k = i) := fun h => hik h.symm
  have a5 : ¬ (j = k) := hjk
  have a6 : ¬ (k = j) := fun h => hjk h.symm
  have b1 : ¬ (i = N) := by omega
  have b2 : ¬ (j = N) := by omega
  have b3 : ¬ (k = N) := by omega
  refine xrunW 4 (m := m132) hE rfl rfl rfl rfl ?_
  simp (maxSteps := 10000000) (disch := first | assumption | omega | (simp only [zy19, zy17, zy18, zy34, zy35, zy36, zy11, zy12, rsL] <;> omega) | with_reducible exact rowOK_nil _ _ | ((repeat' apply rowOK_put) <;> first | assumption | exact rowP_ok _ _ _ _ _ | omega) | (simp only [rsI]; done)) only [↓rsW, ↓rsd, rsu, rsX, zyB, Int.reduceEq, ↓reduceIte, zy0, zy1, zy2, zy3, zy4, zy5, zy6, zy7, zy8, zy9, zy10, zy11, zy12, zy13, zy14, zy15, zy16, Nat.reduceEqDiff, Nat.reduceBEq, Nat.reduceAdd, Nat.reduceMul, Nat.reduceSub, Int.reduceToNat, zy17, zy18, zy19, zy20, Nat.reduceLT, Nat.reduceLeDiff, zy21, zy22, zy23, zy24, zy25, zy26, Int.reduceAdd, Int.reduceMul, Int.reduceSub, Int.reduceNeg, Int.reduceDiv, Int.reduceMod, zy27, m132, hc, a1, a2, a3, a4, a5, a6, b1, b2, b3]
def idxVis : List Val → Int → Int → Nat → Int
  | [], _, _, _ => -1
  | a :: r, d, l, k => if (visV a d l).1 = true then idxVis r d (visV a d l).2 (k + 1) else (k : Int)
theorem idxVis_any : ∀ (r : List Val) (d l : Int) (k : Nat), (decide (0 ≤ idxVis r d l k)) = !(visVs r d l).1
  | [], d, l, k => by rw [visVs_nil]; rfl
  | a :: r, d, l, k => by
    rw [visVs_cons]
    by_cases h : (visV a d l).1 = true
    · have e : idxVis (a :: r) d l k = idxVis r d (visV a d l).2 (k + 1) := if_pos h
      rw [if_pos h, decide_eq_decide.2 (show 0 ≤ idxVis (a :: r) d l k ↔ 0 ≤ idxVis r d (visV a d l).2 (k + 1) by rw [e]), idxVis_any r d _ (k + 1)]
    · have e : idxVis (a :: r) d l k = (k : Int) := if_neg h
      rw [if_neg h, decide_eq_true (show 0 ≤ idxVis (a :: r) d l k by rw [e]; omega)]; rfl
set_option maxHeartbeats 1000000 in
theorem indexVis_ok (hE : XOK E) (r : List Val) (hr : r.length < 9223372036854775808) (hv : ∀ x ∈ r, VisOk (cfW G T E) x) (d l : Int) (i j k N : Nat) (hij : i ≠ j) (hik : i ≠ k) (hjk : j ≠ k) (hi : i < N) (hj : j < N) (hk : k < N) (h0 : 0 ≤ l) (h1 : l ≤ 256) (h2 : 1 ≤ d) (h3 : d ≤ 24) :
    valW (cfW G T E) 141 [.sl 3 (Val.rows r), .fn 132 [.ptr j 0, .ptr k 0]] (hl [(k, .box [.int .i64 d]), (i, .box [.int .i64 l]), (j, visFn i j)]) N [k, i, j] =
      some (.ret (.int .i64 (idxVis r (d + 1) l 0)), [.box [.int .i64 d], .box [.int .i64 (visVs r (d + 1) l).2], visFn i j]) := by
  have a1 : ¬ (i = j) := hij
  have a2 : ¬ (j = i) := fun h => hij h.symm
  have a3 : ¬ (i = k) := hik
  have a4 : ¬ (k = i) := fun h => hik h.symm
  have a5 : ¬ (j = k) := hjk
  have a6 : ¬ (k = j) := fun h => hjk h.symm
  refine xrunW 6 (m := m141) hE rfl rfl rfl rfl ?_
  simp (maxSteps := 10000000) (disch := first | assumption | omega | (simp only [zy19, zy17, zy18, zy34, zy35, zy36, zy11, zy12, rsL] <;> omega) | with_reducible exact rowOK_nil _ _ | ((repeat' apply rowOK_put) <;> first | assumption | exact rowP_ok _ _ _ _ _ | omega) | (simp only [rsI]; done)) only [↓rsW, ↓rsd, rsu, rsX, zyB, Int.reduceEq, ↓reduceIte, zy0, zy1, zy2, zy3, zy4, zy5, zy6, zy7, zy8, zy9, zy10, zy11, zy12, zy13, zy14, zy15, zy16, Nat.reduceEqDiff, Nat.reduceBEq, Nat.reduceAdd, Nat.reduceMul, Nat.reduceSub, Int.reduceToNat, zy17, zy18, zy19, zy20, Nat.reduceLT, Nat.reduceLeDiff, zy21, zy22, zy23, zy24, zy25, zy26, Int.reduceAdd, Int.reduceMul, Int.reduceSub, Int.reduceNeg, Int.reduceDiv, Int.reduceMod, zy27, m141]
  refine go_loop2 6 (fun n s => ∃ (q : Nat) (lq : Int), n = r.length - q ∧ q ≤ r.length ∧ N ≤ s.N ∧ s.e 0 = .sl 3 (Val.rows r) ∧ s.e 1 = .fn 132 [.ptr j 0, .ptr k 0] ∧ s.e 7 = .int .i64 r.length ∧ s.e 8 = .int .i64 q ∧
    s.o k = .box [.int .i64 d] ∧ s.o i = .box [.int .i64 lq] ∧ s.o j = visFn i j ∧ 0 ≤ lq ∧ lq ≤ 256 ∧ idxVis (r.drop q) (d + 1) lq q = idxVis r (d + 1) l 0 ∧ visVs (r.drop q) (d + 1) lq = visVs r (d + 1) l) r.length ?_ ?_
  · refine ⟨0, l, rfl, by omega, Nat.le_refl _, ?_⟩
    simp (maxSteps := 10000000) (disch := first | assumption | omega | (simp only [zy19, zy17, zy18, zy34, zy35, zy36, zy11, zy12, rsL] <;> omega) | with_reducible exact rowOK_nil _ _ | ((repeat' apply rowOK_put) <;> first | assumption | exact rowP_ok _ _ _ _ _ | omega) | (simp only [rsI]; done)) only [↓rsW, ↓rsd, rsu, rsX, zyB, Int.reduceEq, ↓reduceIte, zy0, zy1, zy2, zy3, zy4, zy5, zy6, zy7, zy8, zy9, zy10, zy11, zy12, zy13, zy14, zy15, zy16, Nat.reduceEqDiff, Nat.reduceBEq, Nat.reduceAdd, Nat.reduceMul, Nat.reduceSub, Int.reduceToNat, zy17, zy18, zy19, zy20, Nat.reduceLT, Nat.reduceLeDiff, zy21, zy22, zy23, zy24, zy25, zy26, Int.reduceAdd, Int.reduceMul, Int.reduceSub, Int.reduceNeg, Int.reduceDiv, Int.reduceMod, zy27, a1, a2, a3, a4, a5, a6]
    exact ⟨rfl, h0, h1⟩
  · rintro n e o M ⟨q, lq, hn, hq, hM, e0, e1, e7, e8, ok, oi, oj, hl0, hl1, hI, hS⟩
    simp only at hM e0 e1 e7 e8 ok oi oj
    by_cases hlt : q < r.length
    · have hx := getD_mem r q Val.z hlt
      have hc := small11_ok (G := G) hE _ (hv _ hx) d lq i j k M hij hik hjk (by omega) (by omega) (by omega) hl0 hl1 h2 h3
      have hle := visV_le (r.getD q Val.z) (d + 1) lq hl0
      rw [drop_getD r q Val.z hlt] at hI hS
      rw [visVs_cons] at hS
      by_cases hb : (visV (r.getD q Val.z) (d + 1) lq).1 = true
      · have hI' : idxVis (r.drop (q + 1)) (d + 1) (visV (r.getD q Val.z) (d + 1) lq).2 (q + 1) = idxVis r (d + 1) l 0 := by rw [← hI]; exact (if_pos hb).symm
        rw [if_pos hb] at hS
        simp (maxSteps := 10000000) (disch := first | assumption | omega | (simp only [zy19, zy17, zy18, zy34, zy35, zy36, zy11, zy12, rsL] <;> omega) | with_reducible exact rowOK_nil _ _ | ((repeat' apply rowOK_put) <;> first | assumption | exact rowP_ok _ _ _ _ _ | omega) | (simp only [rsI]; done)) only [↓rsW, ↓rsd, rsu, rsX, zyB, Int.reduceEq, ↓reduceIte, zy0, zy1, zy2, zy3, zy4, zy5, zy6, zy7, zy8, zy9, zy10, zy11, zy12, zy13, zy14, zy15, zy16, Nat.reduceEqDiff, Nat.reduceBEq, Nat.reduceAdd, Nat.reduceMul, Nat.reduceSub, Int.reduceToNat, zy17, zy18, zy19, zy20, Nat.reduceLT, Nat.reduceLeDiff, zy21, zy22, zy23, zy24, zy25, zy26, Int.reduceAdd, Int.reduceMul, Int.reduceSub, Int.reduceNeg, Int.reduceDiv, Int.reduceMod, zy27, e0, e1, e7, e8, ok, oi, oj, hc, hb, a1, a2, a3, a4, a5, a6]
        have h9 := hle.2.2 hb
        exact ⟨_, by omega, q + 1, _, rfl, by omega, hM, rfl, rfl, h9, by omega, hI', hS⟩
      · have hb' : (visV (r.getD q Val.z) (d + 1) lq).1 = false := by simpa using hb
        have hI' : (q : Int) = idxVis r (d + 1) l 0 := by rw [← hI]; exact (if_neg hb).symm
        rw [if_neg hb] at hS
        simp (maxSteps := 10000000) (disch := first | assumption | omega | (simp only [zy19, zy17, zy18, zy34, zy35, zy36, zy11, zy12, rsL] <;> omega) | with_reducible exact rowOK_nil _ _ | ((repeat' apply rowOK_put) <;> first | assumption | exact rowP_ok _ _ _ _ _ | omega) | (simp only [rsI]; done)) only [↓rsW, ↓rsd, rsu, rsX, zyB, Int.reduceEq, ↓reduceIte, zy0, zy1, zy2, zy3, zy4, zy5, zy6, zy7, zy8, zy9, zy10, zy11, zy12, zy13, zy14, zy15, zy16, Nat.reduceEqDiff, Nat.reduceBEq, Nat.reduceAdd, Nat.reduceMul, Nat.reduceSub, Int.reduceToNat, zy17, zy18, zy19, zy20, Nat.reduceLT, Nat.reduceLeDiff, zy21, zy22, zy23, zy24, zy25, zy26, Int.reduceAdd, Int.reduceMul, Int.reduceSub, Int.reduceNeg, Int.reduceDiv, Int.reduceMod, zy27, e0, e1, e7, e8, ok, oi, oj, hc, hb', a1, a2, a3, a4, a5, a6]
        rw [← hI', ← hS]
    · have hq' : q = r.length := by omega
      subst hq'
      rw [List.drop_length, visVs_nil] at hS
      rw [List.drop_length] at hI
      simp (maxSteps := 10000000) (disch := first | assumption | omega | (simp only [zy19, zy17, zy18, zy34, zy35, zy36, zy11, zy12, rsL] <;> omega) | with_reducible exact rowOK_nil _ _ | ((repeat' apply rowOK_put) <;> first | assumption | exact rowP_ok _ _ _ _ _ | omega) | (simp only [rsI]; done)) only [↓rsW, ↓rsd, rsu, rsX, zyB, Int.reduceEq, ↓reduceIte, zy0, zy1, zy2, zy3, zy4, zy5, zy6, zy7, zy8, zy9, zy10, zy11, zy12, zy13, zy14, zy15, zy16, Nat.reduceEqDiff, Nat.reduceBEq, Nat.reduceAdd, Nat.reduceMul, Nat.reduceSub, Int.reduceToNat, zy17, zy18, zy19, zy20, Nat.reduceLT, Nat.reduceLeDiff, zy21, zy22, zy23, zy24, zy25, zy26, Int.reduceAdd, Int.reduceMul, Int.reduceSub, Int.reduceNeg, Int.reduceDiv, Int.reduceMod, zy27, e0, e1, e7, e8, ok, oi, oj, a1, a2, a3, a4, a5, a6]
      rw [← hI, ← hS]
      rfl
theorem containsVis_ok (hE : XOK E) (r : List Val) (hr : r.length < 9223372036854775808) (hv : ∀ x ∈ r, VisOk (cfW G T E) x) (d l : Int) (i j k N : Nat) (hij : i ≠ j) (hik : i ≠ k) (hjk : j ≠ k) (hi : i < N) (hj : j < N) (hk : k < N) (h0 : 0 ≤ l) (h1 : l ≤ 256) (h2 : 1 ≤ d) (h3 : d ≤ 24) :
    valW (cfW G T E) 131 [.sl 3 (Val.rows r), .fn 132 [.ptr j 0, .ptr k 0]] (hl [(k, .box [.int .i64 d]), (i, .box [.int .i64 l]), (j, visFn i j)]) N [k, i, j] =
      some (.ret (.bool (!(visVs r (d + 1) l).1)), [.box [.int .i64 d], .box [.int .i64 (visVs r (d + 1) l).2], visFn i j]) := by
  have hc := indexVis_ok (G := G) hE r hr hv d l i j k N hij hik hjk hi hj hk h0 h1 h2 h3
  have a1 : ¬ (i = j) := hij
  have a2 : ¬ (j = i) := fun h => hij h.symm
  have a3 : ¬ (i = k) := hik
  have a4 : ¬ (k = i) := fun h => hik h.symm
  have a5 : ¬ (j = k) := hjk
  have a6 : ¬ (k = j) := fun h => hjk h.symm
  refine xrunW 4 (m := m131) hE rfl rfl rfl rfl ?_
  simp (maxSteps := 10000000) (disch := first | assumption | omega | (simp only [zy19, zy17, zy18, zy34, zy35, zy36, zy11, zy12, rsL] <;> omega) | with_reducible exact rowOK_nil _ _ | ((repeat' apply rowOK_put) <;> first | assumption | exact rowP_ok _ _ _ _ _ | omega) | (simp only [rsI]; done)) only [↓rsW, ↓rsd, rsu, rsX, zyB, Int.reduceEq, ↓reduceIte, zy0, zy1, zy2, zy3, zy4, zy5, zy6, zy7, zy8, zy9, zy10, zy11, zy12, zy13, zy14, zy15, zy16, Nat.reduceEqDiff, Nat.reduceBEq, Nat.reduceAdd, Nat.reduceMul, Nat.reduceSub, Int.reduceToNat, zy17, zy18, zy19, zy20, Nat.reduceLT, Nat.reduceLeDiff, zy21, zy22, zy23, zy24, zy25, zy26, Int.reduceAdd, Int.reduceMul, Int.reduceSub, Int.reduceNeg, Int.reduceDiv, Int.reduceMod, zy27, m131, hc, geq_dec, a1, a2, a3, a4, a5, a6]
  simp only [idxVis_any]
theorem vis_ok (hE : XOK E) : ∀ v : Val, okV' v → VisOk (cfW G T E) v := by
  refine Val.ind ?_
  intro v ih hv d l i j N hij hi hj h0 h1 h2 h3
  rw [okV_kids] at hv
  have a1 : ¬ (i = j) := hij
  have a2 : ¬ (j = i) := fun h => hij h.symm
  have b1 : ¬ (i = N) := by omega
  have b2 : ¬ (j = N) := by omega
  have b3 : ¬ (i = N + 1) := by omega
  have b4 : ¬ (j = N + 1) := by omega
  have b5 : ¬ (N + 1 = i) := by omega
  have b6 : ¬ (N + 1 = j) := by omega
  have b7 : ¬ (N = i) := by omega
  have b8 : ¬ (N = j) := by omega
  rw [visV_eq]
  refine xrunW 6 (m := m130) hE rfl rfl rfl rfl ?_
  by_cases c1 : 0 ≤ l - 1
  · by_cases c2 : d ≤ 24
    · rw [if_pos ⟨c1, c2⟩]
      have hc := containsVis_ok (G := G) hE v.kids hv.1 (fun x hx => ih x hx (hv.2 x hx)) d (l - 1) i j (N + 1) (N + 2) hij (by omega) (by omega) (by omega) (by omega) (by omega) c1 (by omega) h2 c2
      simp (maxSteps := 10000000) (disch := first | assumption | omega | (simp only [zy19, zy17, zy18, zy34, zy35, zy36, zy11, zy12, rsL] <;> omega) | with_reducible exact rowOK_nil _ _ | ((repeat' apply rowOK_put) <;> first | assumption | exact rowP_ok _ _ _ _ _ | omega) | (simp only [rsI]; done)) only [↓rsW, ↓rsd, rsu, rsX, zyB, Int.reduceEq, ↓reduceIte, zy0, zy1, zy2, zy3, zy4, zy5, zy6, zy7, zy8, zy9, zy10, zy11, zy12, zy13, zy14, zy15, zy16, Nat.reduceEqDiff, Nat.reduceBEq, Nat.reduceAdd, Nat.reduceMul, Nat.reduceSub, Int.reduceToNat, zy17, zy18, zy19, zy20, Nat.reduceLT, Nat.reduceLeDiff, zy21, zy22, zy23, zy24, zy25, zy26, Int.reduceAdd, Int.reduceMul, Int.reduceSub, Int.reduceNeg, Int.reduceDiv, Int.reduceMod, zy27, m130, hc, a1, a2, b1, b2, b3, b4, b5, b6, b7, b8]
      rw [Bool.not_not]
    · rw [if_neg (by omega)]
      simp (maxSteps := 10000000) (disch := first | assumption | omega | (simp only [zy19, zy17, zy18, zy34, zy35, zy36, zy11, zy12, rsL] <;> omega) | with_reducible exact rowOK_nil _ _ | ((repeat' apply rowOK_put) <;> first | assumption | exact rowP_ok _ _ _ _ _ | omega) | (simp only [rsI]; done)) only [↓rsW, ↓rsd, rsu, rsX, zyB, Int.reduceEq, ↓reduceIte, zy0, zy1, zy2, zy3, zy4, zy5, zy6, zy7, zy8, zy9, zy10, zy11, zy12, zy13, zy14, zy15, zy16, Nat.reduceEqDiff, Nat.reduceBEq, Nat.reduceAdd, Nat.reduceMul, Nat.reduceSub, Int.reduceToNat, zy17, zy18, zy19, zy20, Nat.reduceLT, Nat.reduceLeDiff, zy21, zy22, zy23, zy24, zy25, zy26, Int.reduceAdd, Int.reduceMul, Int.reduceSub, Int.reduceNeg, Int.reduceDiv, Int.reduceMod, zy27, m130, a1, a2, b1, b2, b3, b4, b5, b6, b7, b8]
  · rw [if_neg (by omega)]
    simp (maxSteps := 10000000) (disch := first | assumption | omega | (simp only [zy19, zy17, zy18, zy34, zy35, zy36, zy11, zy12, rsL] <;> omega) | with_reducible exact rowOK_nil _ _ | ((repeat' apply rowOK_put) <;> first | assumption | exact rowP_ok _ _ _ _ _ | omega) | (simp only [rsI]; done)) only [↓rsW, ↓rsd, rsu, rsX, zyB, Int.reduceEq, ↓reduceIte, zy0, zy1, zy2, zy3, zy4, zy5, zy6, zy7, zy8, zy9, zy10, zy11, zy12, zy13, zy14, zy15, zy16, Nat.reduceEqDiff, Nat.reduceBEq, Nat.reduceAdd, Nat.reduceMul, Nat.reduceSub, Int.reduceToNat, zy17, zy18, zy19, zy20, Nat.reduceLT, Nat.reduceLeDiff, zy21, zy22, zy23, zy24, zy25, zy26, Int.reduceAdd, Int.reduceMul, Int.reduceSub, Int.reduceNeg, Int.reduceDiv, Int.reduceMod, zy27, m130, a1, a2, b1, b2, b3, b4, b5, b6, b7, b8]
theorem small_ok (hE : XOK E) (v : Val) (hv : okV' v) : valP (cfW G T E) 92 [.agg v.row] = some (.ret (.bool (visV v 1 256).1)) := by
  have hc := vis_ok (G := G) hE v hv 1 256 1 2 3 (by omega) (by omega) (by omega) (by omega) (by omega) (by omega) (by omega)
  refine xrun 5 (m := m92) hE rfl rfl rfl rfl ?_
  simp (maxSteps := 10000000) (disch := first | assumption | omega | (simp only [zy19, zy17, zy18, zy34, zy35, zy36, zy11, zy12, rsL] <;> omega) | with_reducible exact rowOK_nil _ _ | ((repeat' apply rowOK_put) <;> first | assumption | exact rowP_ok _ _ _ _ _ | omega) | (simp only [rsI]; done)) only [↓rsW, ↓rsd, rsu, rsX, zyB, Int.reduceEq, ↓reduceIte, zy0, zy1, zy2, zy3, zy4, zy5, zy6, zy7, zy8, zy9, zy10, zy11, zy12, zy13, zy14, zy15, zy16, Nat.reduceEqDiff, Nat.reduceBEq, Nat.reduceAdd, Nat.reduceMul, Nat.reduceSub, Int.reduceToNat, zy17, zy18, zy19, zy20, Nat.reduceLT, Nat.reduceLeDiff, zy21, zy22, zy23, zy24, zy25, zy26, Int.reduceAdd, Int.reduceMul, Int.reduceSub, Int.reduceNeg, Int.reduceDiv, Int.reduceMod, zy27, m92, hc]
/-- Small is: few nodes, and not deep. -/
theorem visV_iff : ∀ (v : Val) (d l : Int), 0 ≤ l → (visV v d l).1 = decide ((szV v : Int) ≤ l ∧ d + dpV v ≤ 25) ∧ ((visV v d l).1 = true → (visV v d l).2 = l - szV v) := by
  refine Val.ind ?_
  intro v ih d l hl
  have key : ∀ ks : List Val, (∀ x ∈ ks, x ∈ v.kids) → ∀ l : Int, 0 ≤ l → ((visVs ks (d + 1) l).1 = decide ((szVs ks : Int) ≤ l ∧ (ks = [] ∨ d + 1 + dpVs ks ≤ 25))) ∧ ((visVs ks (d + 1) l).1 = true → (visVs ks (d + 1) l).2 = l - szVs ks) := by
    intro ks
    induction ks with
    | nil => intro _ l hl; rw [visVs_nil, szVs_nil, dpVs_nil]; exact ⟨by simp [hl], fun _ => by simp⟩
    | cons a r ihr =>
      intro hm l hl
      have ha := ih a (hm a (by simp)) (d + 1) l hl
      have hle := visV_le a (d + 1) l hl
      rw [visVs_cons, szVs_cons, dpVs_cons]
      by_cases hb : (visV a (d + 1) l).1 = true
      · rw [if_pos hb]
        have h2 := ha.2 hb
        have h3 := ha.1
        rw [hb] at h3
        have h3 := of_decide_eq_true h3.symm
        have hr := ihr (fun x hx => hm x (by simp [hx])) _ (hle.2.2 hb)
        refine ⟨?_, fun h => ?_⟩
        · rw [hr.1, h2]
          refine decide_eq_decide.2 ?_
          constructor
          · rintro ⟨g1, g2⟩
            refine ⟨by omega, .inr ?_⟩
            rcases g2 with g2 | g2
            · subst g2; rw [dpVs_nil]; omega
            · omega
          · rintro ⟨g1, g2⟩
            refine ⟨by omega, ?_⟩
            rcases g2 with g2 | g2
            · cases g2
            · exact .inr (by omega)
        · rw [hr.2 h, h2]; omega
      · rw [if_neg hb]
        have hb' : (visV a (d + 1) l).1 = false := by simpa using hb
        have h3 := ha.1
        rw [hb'] at h3
        have h3 := of_decide_eq_false h3.symm
        refine ⟨?_, fun h => by cases h⟩
        show false = _
        symm
        rw [decide_eq_false_iff_not]
        rintro ⟨g1, g2⟩
        rcases g2 with g2 | g2
        · cases g2
        · exact h3 ⟨by omega, by omega⟩
  rw [visV_eq, szV_eq, dpV_eq]
  by_cases hc : 0 ≤ l - 1 ∧ d ≤ 24
  · rw [if_pos hc]
    have := key v.kids (fun _ h => h) (l - 1) hc.1
    refine ⟨?_, fun h => by rw [this.2 h]; omega⟩
    rw [this.1]
    refine decide_eq_decide.2 ?_
    constructor
    · rintro ⟨g1, g2⟩
      refine ⟨by omega, ?_⟩
      rcases g2 with g2 | g2
      · rw [g2, dpVs_nil]; omega
      · omega
    · rintro ⟨g1, g2⟩
      exact ⟨by omega, .inr (by omega)⟩
  · rw [if_neg hc]
    refine ⟨?_, fun h => by cases h⟩
    show false = _
    symm
    rw [decide_eq_false_iff_not]
    rintro ⟨g1, g2⟩
    exact hc ⟨by omega, by omega⟩
def smallV (v : Val) : Bool := decide (szV v ≤ 256) && decide (dpV v ≤ 24)
theorem small_ok' (hE : XOK E) (v : Val) (hv : okV' v) : valP (cfW G T E) 92 [.agg v.row] = some (.ret (.bool (smallV v))) := by
  rw [small_ok hE v hv, (visV_iff v 1 256 (by omega)).1]
  unfold smallV
  rw [← Bool.decide_and]
  congr 4
  exact propext ⟨fun h => ⟨by omega, by omega⟩, fun h => ⟨by omega, by omega⟩⟩
def validV (l : List Dfn) (t : Typ) (v : Val) : Bool := smallV v && fitV l v t
theorem valid_v (hE : XOK E) (p : Prg) (hp : okDs p.defs) (t : Typ) (ht : okT t) (v : Val) (hv : okV' v) : valP (cfW G T E) 44 [.agg p.row, .agg t.row, .agg v.row] = some (.ret (.bool (validV p.defs t v))) := by
  have h1 := small_ok' (G := G) hE v hv
  have h2 := fits_ok (G := G) hE p hp v t hv ht
  unfold validV
  refine xrun 6 (m := m44) hE rfl rfl rfl rfl ?_
  generalize smallV v = q at h1 ⊢
  cases q
  · simp (maxSteps := 10000000) (disch := first | assumption | omega | (simp only [zy19, zy17, zy18, zy34, zy35, zy36, zy11, zy12, rsL] <;> omega) | with_reducible exact rowOK_nil _ _ | ((repeat' apply rowOK_put) <;> first | assumption | exact rowP_ok _ _ _ _ _ | omega) | (simp only [rsI]; done)) only [↓rsW, ↓rsd, rsu, rsX, zyB, Int.reduceEq, ↓reduceIte, zy0, zy1, zy2, zy3, zy4, zy5, zy6, zy7, zy8, zy9, zy10, zy11, zy12, zy13, zy14, zy15, zy16, Nat.reduceEqDiff, Nat.reduceBEq, Nat.reduceAdd, Nat.reduceMul, Nat.reduceSub, Int.reduceToNat, zy17, zy18, zy19, zy20, Nat.reduceLT, Nat.reduceLeDiff, zy21, zy22, zy23, zy24, zy25, zy26, Int.reduceAdd, Int.reduceMul, Int.reduceSub, Int.reduceNeg, Int.reduceDiv, Int.reduceMod, zy27, m44, h1]
  · simp (maxSteps := 10000000) (disch := first | assumption | omega | (simp only [zy19, zy17, zy18, zy34, zy35, zy36, zy11, zy12, rsL] <;> omega) | with_reducible exact rowOK_nil _ _ | ((repeat' apply rowOK_put) <;> first | assumption | exact rowP_ok _ _ _ _ _ | omega) | (simp only [rsI]; done)) only [↓rsW, ↓rsd, rsu, rsX, zyB, Int.reduceEq, ↓reduceIte, zy0, zy1, zy2, zy3, zy4, zy5, zy6, zy7, zy8, zy9, zy10, zy11, zy12, zy13, zy14, zy15, zy16, Nat.reduceEqDiff, Nat.reduceBEq, Nat.reduceAdd, Nat.reduceMul, Nat.reduceSub, Int.reduceToNat, zy17, zy18, zy19, zy20, Nat.reduceLT, Nat.reduceLeDiff, zy21, zy22, zy23, zy24, zy25, zy26, Int.reduceAdd, Int.reduceMul, Int.reduceSub, Int.reduceNeg, Int.reduceDiv, Int.reduceMod, zy27, m44, h1, h2]
end Go.Proofs.Ytoccgkgdhobmfaa.Am.Ru
set_option maxRecDepth 100000
set_option linter.unusedSimpArgs false
set_option linter.unusedVariables false
namespace Go.Proofs.Ytoccgkgdhobmfaa.Am.Ru
open Go
variable {G : Nat → Option (List V)} {E : Nat → Option (CallFn → List V → Hp → Nat → Option Out)}
/-- What a zero value comes to: the value, the error, how many nodes are left. -/
structure ZR where
  v : Val
  e : Int
  l : Int
/-- The zero values of slots, in order. -/
def zeroL (f : Typ → Int → ZR) : List Slt → List Val → Int → List Val × Int × Int
  | [], acc, l => (acc, 0, l)
  | s :: r, acc, l => if (f s.ty l).e = 0 then zeroL f r (acc ++ [(f s.ty l).v]) (f s.ty l).l else ([], (f s.ty l).e, (f s.ty l).l)
def zSlots (d : Dfn) : List Slt := if d.kind = 1 then d.slots.take 1 else d.slots
def zKind (d : Dfn) : Int := if d.kind = 1 then 3 else 2
def zeroD (f : Typ → Int → ZR) (d : Dfn) (l : Int) : ZR :=
  if d.kind = 1 ∧ d.slots.length = 0 then ⟨Val.z, 1, l⟩
  else if (zeroL f (zSlots d) [] l).2.1 = 0 then ⟨.mk (zKind d) 0 (zeroL f (zSlots d) [] l).1, 0, (zeroL f (zSlots d) [] l).2.2⟩
  else ⟨Val.z, (zeroL f (zSlots d) [] l).2.1, (zeroL f (zSlots d) [] l).2.2⟩
/-- With so many levels left. -/
def zeroF (ds : List Dfn) : Nat → Typ → Int → ZR
  | 0, t, l => if vT ds 24 t = true then ⟨Val.z, 4, l - 1⟩ else ⟨Val.z, 1, l⟩
  | n + 1, t, l => if vT ds 24 t = true then
      if l - 1 < 0 then ⟨Val.z, 4, l - 1⟩
      else if t.kind = 0 then ⟨.mk 0 0 [], 0, l - 1⟩
      else if t.kind = 1 then ⟨.mk 1 0 [], 0, l - 1⟩
      else if t.kind = 2 then ⟨.mk 4 0 [], 0, l - 1⟩
      else zeroD (zeroF ds n) (defD ds t.ref) (l - 1)
    else ⟨Val.z, 1, l⟩
theorem zeroL_cons (f : Typ → Int → ZR) (s : Slt) (r : List Slt) (acc : List Val) (l : Int) : zeroL f (s :: r) acc l = if (f s.ty l).e = 0 then zeroL f r (acc ++ [(f s.ty l).v]) (f s.ty l).l else ([], (f s.ty l).e, (f s.ty l).l) := rfl
/-- What a function must keep to be used for slots. -/
def ZB (f : Typ → Int → ZR) : Prop := ∀ t l, 0 ≤ l → -1 ≤ (f t l).l ∧ (f t l).l ≤ l ∧ ((f t l).e = 0 → 0 ≤ (f t l).l ∧ (f t l).l ≤ l - 1)
theorem zeroL_le {f : Typ → Int → ZR} (hf : ZB f) : ∀ (r : List Slt) (acc : List Val) (l : Int), 0 ≤ l → -1 ≤ (zeroL f r acc l).2.2 ∧ (zeroL f r acc l).2.2 ≤ l ∧ ((zeroL f r acc l).2.1 = 0 → 0 ≤ (zeroL f r acc l).2.2)
  | [], acc, l, hl => ⟨by simp [zeroL]; omega, by simp [zeroL], fun _ => hl⟩
  | s :: r, acc, l, hl => by
    have h := hf s.ty l hl
    rw [zeroL_cons]
    by_cases he : (f s.ty l).e = 0
    · rw [if_pos he]
      have := zeroL_le hf r (acc ++ [(f s.ty l).v]) _ (h.2.2 he).1
      exact ⟨this.1, by omega, this.2.2⟩
    · rw [if_neg he]
      exact ⟨h.1, h.2.1, fun h0 => absurd h0 he⟩
theorem zeroD_le {f : Typ → Int → ZR} (hf : ZB f) (d : Dfn) (l : Int) (hl : 0 ≤ l) : -1 ≤ (zeroD f d l).l ∧ (zeroD f d l).l ≤ l ∧ ((zeroD f d l).e = 0 → 0 ≤ (zeroD f d l).l) := by
  unfold zeroD
  have h := zeroL_le hf (zSlots d) [] l hl
  split
  · exact ⟨by simp; omega, by simp, fun h => by cases h⟩
  · split
    · rename_i he; exact ⟨h.1, h.2.1, fun _ => h.2.2 he⟩
    · rename_i he; exact ⟨h.1, h.2.1, fun h0 => absurd h0 he⟩
theorem zeroF_le (ds : List Dfn) : ∀ n, ZB (zeroF ds n) := by
  intro n
  induction n with
  | zero =>
    intro t l hl
    unfold zeroF
    split
    · exact ⟨by simp; omega, by simp; omega, fun h => by cases h⟩
    · exact ⟨by simp; omega, by simp, fun h => by cases h⟩
  | succ n ih =>
    intro t l hl
    unfold zeroF
    split
    · split
      · exact ⟨by simp; omega, by simp; omega, fun h => by cases h⟩
      · split
        · exact ⟨by simp; omega, by simp; omega, fun h => ⟨by simp; omega, by simp⟩⟩
        · split
          · exact ⟨by simp; omega, by simp; omega, fun h => ⟨by simp; omega, by simp⟩⟩
          · split
            · exact ⟨by simp; omega, by simp; omega, fun h => ⟨by simp; omega, by simp⟩⟩
            · have := zeroD_le ih (defD ds t.ref) (l - 1) (by omega)
              exact ⟨this.1, by omega, fun h => ⟨this.2.2 h, this.2.1⟩⟩
    · exact ⟨by simp; omega, by simp, fun h => by cases h⟩
theorem zSlots_ok {d : Dfn} (h : okD d) : (zSlots d).length < 9223372036854775808 ∧ ∀ s ∈ zSlots d, okT s.ty := by
  unfold zSlots
  split
  · refine ⟨?_, fun s hs => h.2 s (List.mem_of_mem_take hs)⟩
    rw [List.length_take]; have := h.1; omega
  · exact h
abbrev makFn (i j k : Nat) : AObj := .box [.fn 99 [.ptr i 0, .ptr j 0, .ptr k 0]]
def MakOk (cf : CallFn) (p : Prg) (n : Nat) : Prop := ∀ (t : Typ) (d : Nat) (l : Int) (i j k N : Nat), okT t → n + d = 25 → i ≠ j → i ≠ k → j ≠ k → i < N → j < N → k < N → 0 ≤ l → l ≤ 256 →
  valW cf 99 [.agg t.row, .int .i64 d, .ptr i 0, .ptr j 0, .ptr k 0] (hl [(k, makFn i j k), (j, .box [.int .i64 l]), (i, .box p.row)]) N [k, j, i] =
    some (.ret (.tup [.agg (zeroF p.defs n t l).v.row, .int .i64 (zeroF p.defs n t l).e]), [makFn i j k, .box [.int .i64 (zeroF p.defs n t l).l], .box p.row])
theorem Vz_row : Val.z.row = [.int .i64 0, .int .i64 0, .sl 3 []] := rfl
theorem Vk_row (k : Int) : (Val.mk k 0 []).row = [.int .i64 k, .int .i64 0, .sl 3 []] := Val.row_eq _
set_option maxHeartbeats 2000000 in
theorem mak_ok (hE : XOK E) (p : Prg) (hp : okDs p.defs) : ∀ n, MakOk (cfW G T E) p n := by
  intro n
  induction n with
  | zero =>
    intro t d l i j k N ht hd hij hik hjk hi hj hk h0 h1
    have hvt := valid_ok (G := G) hE p t hp.1 ht
    refine xrunW 17 (m := m99) hE rfl rfl rfl rfl ?_
    unfold zeroF
    by_cases hva : vT p.defs 24 t = true
    · rw [if_pos hva]
      rw [hva] at hvt
      by_cases c1 : l - 1 < 0
      · simp (maxSteps := 10000000) (disch := first | assumption | omega | (simp only [zy19, zy17, zy18, zy34, zy35, zy36, zy11, zy12, rsL] <;> omega) | with_reducible exact rowOK_nil _ _ | ((repeat' apply rowOK_put) <;> first | assumption | exact rowP_ok _ _ _ _ _ | omega) | (simp only [rsI]; done)) only [↓rsW, ↓rsd, rsu, rsX, zyB, Int.reduceEq, ↓reduceIte, zy0, zy1, zy2, zy3, zy4, zy5, zy6, zy7, zy8, zy9, zy10, zy11, zy12, zy13, zy14, zy15, zy16, Nat.reduceEqDiff, Nat.reduceBEq, Nat.reduceAdd, Nat.reduceMul, Nat.reduceSub, Int.reduceToNat, zy17, zy18, zy19, zy20, Nat.reduceLT, Nat.reduceLeDiff, zy21, zy22, zy23, zy24, zy25, zy26, Int.reduceAdd, Int.reduceMul, Int.reduceSub, Int.reduceNeg, Int.reduceDiv, Int.reduceMod, zy27, m99, hvt, Vz_row]
      · simp (maxSteps := 10000000) (disch := first | assumption | omega | (simp only [zy19, zy17, zy18, zy34, zy35, zy36, zy11, zy12, rsL] <;> omega) | with_reducible exact rowOK_nil _ _ | ((repeat' apply rowOK_put) <;> first | assumption | exact rowP_ok _ _ _ _ _ | omega) | (simp only [rsI]; done)) only [↓rsW, ↓rsd, rsu, rsX, zyB, Int.reduceEq, ↓reduceIte, zy0, zy1, zy2, zy3, zy4, zy5, zy6, zy7, zy8, zy9, zy10, zy11, zy12, zy13, zy14, zy15, zy16, Nat.reduceEqDiff, Nat.reduceBEq, Nat.reduceAdd, Nat.reduceMul, Nat.reduceSub, Int.reduceToNat, zy17, zy18, zy19, zy20, Nat.reduceLT, Nat.reduceLeDiff, zy21, zy22, zy23, zy24, zy25, zy26, Int.reduceAdd, Int.reduceMul, Int.reduceSub, Int.reduceNeg, Int.reduceDiv, Int.reduceMod, zy27, m99, hvt, Vz_row]
    · rw [if_neg hva]
      have hva' : vT p.defs 24 t = false := by simpa using hva
      rw [hva'] at hvt
      simp (maxSteps := 10000000) (disch := first | assumption | omega | (simp only [zy19, zy17, zy18, zy34, zy35, zy36, zy11, zy12, rsL] <;> omega) | with_reducible exact rowOK_nil _ _ | ((repeat' apply rowOK_put) <;> first | assumption | exact rowP_ok _ _ _ _ _ | omega) | (simp only [rsI]; done)) only [↓rsW, ↓rsd, rsu, rsX, zyB, Int.reduceEq, ↓reduceIte, zy0, zy1, zy2, zy3, zy4, zy5, zy6, zy7, zy8, zy9, zy10, zy11, zy12, zy13, zy14, zy15, zy16, Nat.reduceEqDiff, Nat.reduceBEq, Nat.reduceAdd, Nat.reduceMul, Nat.reduceSub, Int.reduceToNat, zy17, zy18, zy19, zy20, Nat.reduceLT, Nat.reduceLeDiff, zy21, zy22, zy23, zy24, zy25, zy26, Int.reduceAdd, Int.reduceMul, Int.reduceSub, Int.reduceNeg, Int.reduceDiv, Int.reduceMod, zy27, m99, hvt, Vz_row]
  | succ n ih =>
    intro t d l i j k N ht hd hij hik hjk hi hj hk h0 h1
    have hvt := valid_ok (G := G) hE p t hp.1 ht
    refine xrunW 17 (m := m99) hE rfl rfl rfl rfl ?_
    unfold zeroF
    by_cases hva : vT p.defs 24 t = true
    · rw [if_pos hva]
      rw [hva] at hvt
      by_cases c1 : l - 1 < 0
      · rw [if_pos c1]
        simp (maxSteps := 10000000) (disch := first | assumption | omega | (simp only [zy19, zy17, zy18, zy34, zy35, zy36, zy11, zy12, rsL] <;> omega) | with_reducible exact rowOK_nil _ _ | ((repeat' apply rowOK_put) <;> first | assumption | exact rowP_ok _ _ _ _ _ | omega) | (simp only [rsI]; done)) only [↓rsW, ↓rsd, rsu, rsX, zyB, Int.reduceEq, ↓reduceIte, zy0, zy1, zy2, zy3, zy4, zy5, zy6, zy7, zy8, zy9, zy10, zy11, zy12, zy13, zy14, zy15, zy16, Nat.reduceEqDiff, Nat.reduceBEq, Nat.reduceAdd, Nat.reduceMul, Nat.reduceSub, Int.reduceToNat, zy17, zy18, zy19, zy20, Nat.reduceLT, Nat.reduceLeDiff, zy21, zy22, zy23, zy24, zy25, zy26, Int.reduceAdd, Int.reduceMul, Int.reduceSub, Int.reduceNeg, Int.reduceDiv, Int.reduceMod, zy27, m99, hvt, Vz_row]
      · rw [if_neg c1]
        by_cases k0 : t.kind = 0
        · rw [if_pos k0]
          simp (maxSteps := 10000000) (disch := first | assumption | omega | (simp only [zy19, zy17, zy18, zy34, zy35, zy36, zy11, zy12, rsL] <;> omega) | with_reducible exact rowOK_nil _ _ | ((repeat' apply rowOK_put) <;> first | assumption | exact rowP_ok _ _ _ _ _ | omega) | (simp only [rsI]; done)) only [↓rsW, ↓rsd, rsu, rsX, zyB, Int.reduceEq, ↓reduceIte, zy0, zy1, zy2, zy3, zy4, zy5, zy6, zy7, zy8, zy9, zy10, zy11, zy12, zy13, zy14, zy15, zy16, Nat.reduceEqDiff, Nat.reduceBEq, Nat.reduceAdd, Nat.reduceMul, Nat.reduceSub, Int.reduceToNat, zy17, zy18, zy19, zy20, Nat.reduceLT, Nat.reduceLeDiff, zy21, zy22, zy23, zy24, zy25, zy26, Int.reduceAdd, Int.reduceMul, Int.reduceSub, Int.reduceNeg, Int.reduceDiv, Int.reduceMod, zy27, m99, hvt, k0, Vk_row]
        · rw [if_neg k0]
          by_cases k1 : t.kind = 1
          · rw [if_pos k1]
            simp (maxSteps := 10000000) (disch := first | assumption | omega | (simp only [zy19, zy17, zy18, zy34, zy35, zy36, zy11, zy12, rsL] <;> omega) | with_reducible exact rowOK_nil _ _ | ((repeat' apply rowOK_put) <;> first | assumption | exact rowP_ok _ _ _ _ _ | omega) | (simp only [rsI]; done)) only [↓rsW, ↓rsd, rsu, rsX, zyB, Int.reduceEq, ↓reduceIte, zy0, zy1, zy2, zy3, zy4, zy5, zy6, zy7, zy8, zy9, zy10, zy11, zy12, zy13, zy14, zy15, zy16, Nat.reduceEqDiff, Nat.reduceBEq, Nat.reduceAdd, Nat.reduceMul, Nat.reduceSub, Int.reduceToNat, zy17, zy18, zy19, zy20, Nat.reduceLT, Nat.reduceLeDiff, zy21, zy22, zy23, zy24, zy25, zy26, Int.reduceAdd, Int.reduceMul, Int.reduceSub, Int.reduceNeg, Int.reduceDiv, Int.reduceMod, zy27, m99, hvt, k1, Vk_row]
          · rw [if_neg k1]
            by_cases k2 : t.kind = 2
            · rw [if_pos k2]
              simp (maxSteps := 10000000) (disch := first | assumption | omega | (simp only [zy19, zy17, zy18, zy34, zy35, zy36, zy11, zy12, rsL] <;> omega) | with_reducible exact rowOK_nil _ _ | ((repeat' apply rowOK_put) <;> first | assumption | exact rowP_ok _ _ _ _ _ | omega) | (simp only [rsI]; done)) only [↓rsW, ↓rsd, rsu, rsX, zyB, Int.reduceEq, ↓reduceIte, zy0, zy1, zy2, zy3, zy4, zy5, zy6, zy7, zy8, zy9, zy10, zy11, zy12, zy13, zy14, zy15, zy16, Nat.reduceEqDiff, Nat.reduceBEq, Nat.reduceAdd, Nat.reduceMul, Nat.reduceSub, Int.reduceToNat, zy17, zy18, zy19, zy20, Nat.reduceLT, Nat.reduceLeDiff, zy21, zy22, zy23, zy24, zy25, zy26, Int.reduceAdd, Int.reduceMul, Int.reduceSub, Int.reduceNeg, Int.reduceDiv, Int.reduceMod, zy27, m99, hvt, k2, Vk_row]
            · rw [if_neg k2]
              have hd' := def_ok (G := G) hE p t.ref hp.1
              have hok := okD_def hp t.ref
              generalize defD p.defs t.ref = df at hd' hok ⊢
              have hzs := zSlots_ok hok
              have hzb := zeroF_le p.defs n
              have hlen := hok.1
              unfold zeroD
              by_cases d1 : df.kind = 1
              · by_cases s0 : df.slots.length = 0
                · rw [if_pos ⟨d1, s0⟩]
                  simp (maxSteps := 10000000) (disch := first | assumption | omega | (simp only [zy19, zy17, zy18, zy34, zy35, zy36, zy11, zy12, rsL] <;> omega) | with_reducible exact rowOK_nil _ _ | ((repeat' apply rowOK_put) <;> first | assumption | exact rowP_ok _ _ _ _ _ | omega) | (simp only [rsI]; done)) only [↓rsW, ↓rsd, rsu, rsX, zyB, Int.reduceEq, ↓reduceIte, zy0, zy1, zy2, zy3, zy4, zy5, zy6, zy7, zy8, zy9, zy10, zy11, zy12, zy13, zy14, zy15, zy16, Nat.reduceEqDiff, Nat.reduceBEq, Nat.reduceAdd, Nat.reduceMul, Nat.reduceSub, Int.reduceToNat, zy17, zy18, zy19, zy20, Nat.reduceLT, Nat.reduceLeDiff, zy21, zy22, zy23, zy24, zy25, zy26, Int.reduceAdd, Int.reduceMul, Int.reduceSub, Int.reduceNeg, Int.reduceDiv, Int.reduceMod, zy27, m99, hvt, k0, k1, k2, hd', d1, s0, Vz_row]
                · rw [if_neg (fun h => s0 h.2)]
                  rw [show zSlots df = df.slots.take 1 from if_pos d1] at hzs ⊢
                  rw [show zKind df = 3 from if_pos d1]
                  simp (maxSteps := 10000000) (disch := first | assumption | omega | (simp only [zy19, zy17, zy18, zy34, zy35, zy36, zy11, zy12, rsL] <;> omega) | with_reducible exact rowOK_nil _ _ | ((repeat' apply rowOK_put) <;> first | assumption | exact rowP_ok _ _ _ _ _ | omega) | (simp only [rsI]; done)) only [↓rsW, ↓rsd, rsu, rsX, zyB, Int.reduceEq, ↓reduceIte, zy0, zy1, zy2, zy3, zy4, zy5, zy6, zy7, zy8, zy9, zy10, zy11, zy12, zy13, zy14, zy15, zy16, Nat.reduceEqDiff, Nat.reduceBEq, Nat.reduceAdd, Nat.reduceMul, Nat.reduceSub, Int.reduceToNat, zy17, zy18, zy19, zy20, Nat.reduceLT, Nat.reduceLeDiff, zy21, zy22, zy23, zy24, zy25, zy26, Int.reduceAdd, Int.reduceMul, Int.reduceSub, Int.reduceNeg, Int.reduceDiv, Int.reduceMod, zy27, m99, hvt, k0, k1, k2, hd', d1]
                  have hzs' : (df.slots.take 1).length < 9223372036854775808 ∧ ∀ s ∈ (df.slots.take 1), okT s.ty := hzs
                  refine go_loop2 17 (fun n' s => ∃ (q jj : Nat) (acc : List Val) (lq : Int), n' = (df.slots.take 1).length - q ∧ q ≤ (df.slots.take 1).length ∧ acc.length = q ∧ (N + 4 ≤ s.N ∧ (jj < s.N ∧ N + 4 ≤ jj ∨ acc = [] ∧ s.N = N + 4 ∧ jj = N + 1000)) ∧ s.e 1 = .int .i64 d ∧ s.e 4 = .ptr k 0 ∧ s.e 7 = .ptr (N + 1) 0 ∧ s.e 11 = .ptr (N + 3) 0 ∧
                    s.e 62 = .sl 11 (Slt.rows (df.slots.take 1)) ∧ s.e 63 = .int .i64 (df.slots.take 1).length ∧ s.e 64 = .int .i64 q ∧ s.o i = .box p.row ∧ s.o j = .box [.int .i64 lq] ∧ s.o k = makFn i j k ∧ s.o (N + 1) = .box [.int .i64 0, .int .i64 0, .nils 3] ∧ s.o (N + 3) = .box [.int .i64 3, .int .i64 0, rowV 3 jj (Val.rows acc)] ∧ RowOK s.o 3 jj (Val.rows acc) ∧
                    0 ≤ lq ∧ acc.length + lq ≤ 255 ∧ zeroL (zeroF p.defs n) ((df.slots.take 1).drop q) acc lq = zeroL (zeroF p.defs n) (df.slots.take 1) [] (l - 1)) (df.slots.take 1).length ?_ ?_
                  · refine ⟨0, N + 1000, [], l - 1, rfl, by omega, rfl, ⟨Nat.le_refl _, .inr ⟨rfl, rfl, rfl⟩⟩, ?_⟩
                    simp (maxSteps := 10000000) (disch := first | assumption | omega | (simp only [zy19, zy17, zy18, zy34, zy35, zy36, zy11, zy12, rsL] <;> omega) | with_reducible exact rowOK_nil _ _ | ((repeat' apply rowOK_put) <;> first | assumption | exact rowP_ok _ _ _ _ _ | omega) | (simp only [rsI]; done)) only [↓rsW, ↓rsd, rsu, rsX, zyB, Int.reduceEq, ↓reduceIte, zy0, zy1, zy2, zy3, zy4, zy5, zy6, zy7, zy8, zy9, zy10, zy11, zy12, zy13, zy14, zy15, zy16, Nat.reduceEqDiff, Nat.reduceBEq, Nat.reduceAdd, Nat.reduceMul, Nat.reduceSub, Int.reduceToNat, zy17, zy18, zy19, zy20, Nat.reduceLT, Nat.reduceLeDiff, zy21, zy22, zy23, zy24, zy25, zy26, Int.reduceAdd, Int.reduceMul, Int.reduceSub, Int.reduceNeg, Int.reduceDiv, Int.reduceMod, zy27]
                    exact ⟨rfl, rfl, rowOK_nil _ _, by omega, by omega⟩
                  · rintro n' e o M ⟨q, jj, acc, lq, hn, hq, hal, hM, e1, e4, e7, e11, e62, e63, e64, oi, oj, ok, oN1, oN3, hrow, hl0, hl1, hI⟩
                    simp only at hM e1 e4 e7 e11 e62 e63 e64 oi oj ok oN1 oN3 hrow
                    have hjj : ¬ (jj = N + 1) ∧ ¬ (jj = N + 3) ∧ ¬ (jj = i) ∧ ¬ (jj = j) ∧ ¬ (jj = k) ∧ ¬ (jj = M) ∧ ¬ (jj = M + 1) ∧ ¬ (jj = M + 2) := by
                      rcases hM.2 with h | h
                      · omega
                      · omega
                    obtain ⟨j1, j2, j3, j4, j5, j6, j7, j8⟩ := hjj
                    have hM0 := hM.1
                    by_cases hlt : q < (df.slots.take 1).length
                    · have hx := getD_mem (df.slots.take 1) q Slt.z hlt
                      have hc := ih ((df.slots.take 1).getD q Slt.z).ty (d + 1) lq i j k (M + 2) (hzs'.2 _ hx) (by omega) hij hik hjk (by omega) (by omega) (by omega) hl0 (by omega)
                      rw [nc1] at hc
                      have hle := hzb ((df.slots.take 1).getD q Slt.z).ty lq hl0
                      rw [drop_getD (df.slots.take 1) q Slt.z hlt, zeroL_cons] at hI
                      by_cases he : (zeroF p.defs n ((df.slots.take 1).getD q Slt.z).ty lq).e = 0
                      · rw [if_pos he] at hI
                        have h9 := hle.2.2 he
                        simp (maxSteps := 10000000) (disch := first | assumption | omega | (simp only [zy19, zy17, zy18, zy34, zy35, zy36, zy11, zy12, rsL] <;> omega) | with_reducible exact rowOK_nil _ _ | ((repeat' apply rowOK_put) <;> first | assumption | exact rowP_ok _ _ _ _ _ | omega) | (simp only [rsI]; done)) only [↓rsW, ↓rsd, rsu, rsX, zyB, Int.reduceEq, ↓reduceIte, zy0, zy1, zy2, zy3, zy4, zy5, zy6, zy7, zy8, zy9, zy10, zy11, zy12, zy13, zy14, zy15, zy16, Nat.reduceEqDiff, Nat.reduceBEq, Nat.reduceAdd, Nat.reduceMul, Nat.reduceSub, Int.reduceToNat, zy17, zy18, zy19, zy20, Nat.reduceLT, Nat.reduceLeDiff, zy21, zy22, zy23, zy24, zy25, zy26, Int.reduceAdd, Int.reduceMul, Int.reduceSub, Int.reduceNeg, Int.reduceDiv, Int.reduceMod, zy27, e1, e4, e7, e11, e62, e63, e64, oi, oj, ok, oN1, oN3, hc, he]
                        refine ⟨_, by omega, q + 1, M + 2, _, _, rfl, by omega, ?_, by omega, rfl, rfl, rfl, ?_, h9.1, ?_, hI⟩
                        · rw [List.length_append, hal]; rfl
                        · rw [← Val.rows_snoc]; exact rowOK_put (rowP_ok _ _ _ _ _) (by omega)
                        · rw [List.length_append, List.length_cons, List.length_nil]; omega
                      · rw [if_neg he] at hI
                        simp (maxSteps := 10000000) (disch := first | assumption | omega | (simp only [zy19, zy17, zy18, zy34, zy35, zy36, zy11, zy12, rsL] <;> omega) | with_reducible exact rowOK_nil _ _ | ((repeat' apply rowOK_put) <;> first | assumption | exact rowP_ok _ _ _ _ _ | omega) | (simp only [rsI]; done)) only [↓rsW, ↓rsd, rsu, rsX, zyB, Int.reduceEq, ↓reduceIte, zy0, zy1, zy2, zy3, zy4, zy5, zy6, zy7, zy8, zy9, zy10, zy11, zy12, zy13, zy14, zy15, zy16, Nat.reduceEqDiff, Nat.reduceBEq, Nat.reduceAdd, Nat.reduceMul, Nat.reduceSub, Int.reduceToNat, zy17, zy18, zy19, zy20, Nat.reduceLT, Nat.reduceLeDiff, zy21, zy22, zy23, zy24, zy25, zy26, Int.reduceAdd, Int.reduceMul, Int.reduceSub, Int.reduceNeg, Int.reduceDiv, Int.reduceMod, zy27, e1, e4, e7, e11, e62, e63, e64, oi, oj, ok, oN1, oN3, hc, he]
                        rw [← hI]
                        simp only [he, if_false, Vz_row]
                    · have hq' : q = (df.slots.take 1).length := by omega
                      subst hq'
                      rw [List.drop_length] at hI
                      have hI' : zeroL (zeroF p.defs n) (df.slots.take 1) [] (l - 1) = (acc, 0, lq) := hI.symm
                      simp (maxSteps := 10000000) (disch := first | assumption | omega | (simp only [zy19, zy17, zy18, zy34, zy35, zy36, zy11, zy12, rsL] <;> omega) | with_reducible exact rowOK_nil _ _ | ((repeat' apply rowOK_put) <;> first | assumption | exact rowP_ok _ _ _ _ _ | omega) | (simp only [rsI]; done)) only [↓rsW, ↓rsd, rsu, rsX, zyB, Int.reduceEq, ↓reduceIte, zy0, zy1, zy2, zy3, zy4, zy5, zy6, zy7, zy8, zy9, zy10, zy11, zy12, zy13, zy14, zy15, zy16, Nat.reduceEqDiff, Nat.reduceBEq, Nat.reduceAdd, Nat.reduceMul, Nat.reduceSub, Int.reduceToNat, zy17, zy18, zy19, zy20, Nat.reduceLT, Nat.reduceLeDiff, zy21, zy22, zy23, zy24, zy25, zy26, Int.reduceAdd, Int.reduceMul, Int.reduceSub, Int.reduceNeg, Int.reduceDiv, Int.reduceMod, zy27, e1, e4, e7, e11, e62, e63, e64, oi, oj, ok, oN1, oN3]
                      rw [hI']
                      simp only [if_true, Val.row_eq, Val.kind_mk, Val.n_mk, Val.kids_mk]
              · rw [if_neg (fun h => d1 h.1)]
                rw [show zSlots df = df.slots from if_neg d1] at hzs ⊢
                rw [show zKind df = 2 from if_neg d1]
                simp (maxSteps := 10000000) (disch := first | assumption | omega | (simp only [zy19, zy17, zy18, zy34, zy35, zy36, zy11, zy12, rsL] <;> omega) | with_reducible exact rowOK_nil _ _ | ((repeat' apply rowOK_put) <;> first | assumption | exact rowP_ok _ _ _ _ _ | omega) | (simp only [rsI]; done)) only [↓rsW, ↓rsd, rsu, rsX, zyB, Int.reduceEq, ↓reduceIte, zy0, zy1, zy2, zy3, zy4, zy5, zy6, zy7, zy8, zy9, zy10, zy11, zy12, zy13, zy14, zy15, zy16, Nat.reduceEqDiff, Nat.reduceBEq, Nat.reduceAdd, Nat.reduceMul, Nat.reduceSub, Int.reduceToNat, zy17, zy18, zy19, zy20, Nat.reduceLT, Nat.reduceLeDiff, zy21, zy22, zy23, zy24, zy25, zy26, Int.reduceAdd, Int.reduceMul, Int.reduceSub, Int.reduceNeg, Int.reduceDiv, Int.reduceMod, zy27, m99, hvt, k0, k1, k2, hd', d1]
                have hzs' : (df.slots).length < 9223372036854775808 ∧ ∀ s ∈ (df.slots), okT s.ty := hzs
                refine go_loop2 17 (fun n' s => ∃ (q jj : Nat) (acc : List Val) (lq : Int), n' = (df.slots).length - q ∧ q ≤ (df.slots).length ∧ acc.length = q ∧ (N + 4 ≤ s.N ∧ (jj < s.N ∧ N + 4 ≤ jj ∨ acc = [] ∧ s.N = N + 4 ∧ jj = N + 1000)) ∧ s.e 1 = .int .i64 d ∧ s.e 4 = .ptr k 0 ∧ s.e 7 = .ptr (N + 1) 0 ∧ s.e 11 = .ptr (N + 3) 0 ∧
                  s.e 62 = .sl 11 (Slt.rows (df.slots)) ∧ s.e 63 = .int .i64 (df.slots).length ∧ s.e 64 = .int .i64 q ∧ s.o i = .box p.row ∧ s.o j = .box [.int .i64 lq] ∧ s.o k = makFn i j k ∧ s.o (N + 1) = .box [.int .i64 0, .int .i64 0, .nils 3] ∧ s.o (N + 3) = .box [.int .i64 2, .int .i64 0, rowV 3 jj (Val.rows acc)] ∧ RowOK s.o 3 jj (Val.rows acc) ∧
                  0 ≤ lq ∧ acc.length + lq ≤ 255 ∧ zeroL (zeroF p.defs n) ((df.slots).drop q) acc lq = zeroL (zeroF p.defs n) (df.slots) [] (l - 1)) (df.slots).length ?_ ?_
                · refine ⟨0, N + 1000, [], l - 1, rfl, by omega, rfl, ⟨Nat.le_refl _, .inr ⟨rfl, rfl, rfl⟩⟩, ?_⟩
                  simp (maxSteps := 10000000) (disch := first | assumption | omega | (simp only [zy19, zy17, zy18, zy34, zy35, zy36, zy11, zy12, rsL] <;> omega) | with_reducible exact rowOK_nil _ _ | ((repeat' apply rowOK_put) <;> first | assumption | exact rowP_ok _ _ _ _ _ | omega) | (simp only [rsI]; done)) only [↓rsW, ↓rsd, rsu, rsX, zyB, Int.reduceEq, ↓reduceIte, zy0, zy1, zy2, zy3, zy4, zy5, zy6, zy7, zy8, zy9, zy10, zy11, zy12, zy13, zy14, zy15, zy16, Nat.reduceEqDiff, Nat.reduceBEq, Nat.reduceAdd, Nat.reduceMul, Nat.reduceSub, Int.reduceToNat, zy17, zy18, zy19, zy20, Nat.reduceLT, Nat.reduceLeDiff, zy21, zy22, zy23, zy24, zy25, zy26, Int.reduceAdd, Int.reduceMul, Int.reduceSub, Int.reduceNeg, Int.reduceDiv, Int.reduceMod, zy27]
                  exact ⟨rfl, rfl, rowOK_nil _ _, by omega, by omega⟩
                · rintro n' e o M ⟨q, jj, acc, lq, hn, hq, hal, hM, e1, e4, e7, e11, e62, e63, e64, oi, oj, ok, oN1, oN3, hrow, hl0, hl1, hI⟩
                  simp only at hM e1 e4 e7 e11 e62 e63 e64 oi oj ok oN1 oN3 hrow
                  have hjj : ¬ (jj = N + 1) ∧ ¬ (jj = N + 3) ∧ ¬ (jj = i) ∧ ¬ (jj = j) ∧ ¬ (jj = k) ∧ ¬ (jj = M) ∧ ¬ (jj = M + 1) ∧ ¬ (jj = M + 2) := by
                    rcases hM.2 with h | h
                    · omega
                    · omega
                  obtain ⟨j1, j2, j3, j4, j5, j6, j7, j8⟩ := hjj
                  have hM0 := hM.1
                  by_cases hlt : q < (df.slots).length
                  · have hx := getD_mem (df.slots) q Slt.z hlt
                    have hc := ih ((df.slots).getD q Slt.z).ty (d + 1) lq i j k (M + 2) (hzs'.2 _ hx) (by omega) hij hik hjk (by omega) (by omega) (by omega) hl0 (by omega)
                    rw [nc1] at hc
                    have hle := hzb ((df.slots).getD q Slt.z).ty lq hl0
                    rw [drop_getD (df.slots) q Slt.z hlt, zeroL_cons] at hI
                    by_cases he : (zeroF p.defs n ((df.slots).getD q Slt.z).ty lq).e = 0
                    · rw [if_pos he] at hI
                      have h9 := hle.2.2 he
                      simp (maxSteps := 10000000) (disch := first | assumption | omega | (simp only [zy19, zy17, zy18, zy34, zy35, zy36, zy11, zy12, rsL] <;> omega) | with_reducible exact rowOK_nil _ _ | ((repeat' apply rowOK_put) <;> first | assumption | exact rowP_ok _ _ _ _ _ | omega) | (simp only [rsI]; done)) only [↓rsW, ↓rsd, rsu, rsX, zyB, Int.reduceEq, ↓reduceIte, zy0, zy1, zy2, zy3, zy4, zy5, zy6, zy7, zy8, zy9, zy10, zy11, zy12, zy13, zy14, zy15, zy16, Nat.reduceEqDiff, Nat.reduceBEq, Nat.reduceAdd, Nat.reduceMul, Nat.reduceSub, Int.reduceToNat, zy17, zy18, zy19, zy20, Nat.reduceLT, Nat.reduceLeDiff, zy21, zy22, zy23, zy24, zy25, zy26, Int.reduceAdd, Int.reduceMul, Int.reduceSub, Int.reduceNeg, Int.reduceDiv, Int.reduceMod, zy27, e1, e4, e7, e11, e62, e63, e64, oi, oj, ok, oN1, oN3, hc, he]
                      refine ⟨_, by omega, q + 1, M + 2, _, _, rfl, by omega, ?_, by omega, rfl, rfl, rfl, ?_, h9.1, ?_, hI⟩
                      · rw [List.length_append, hal]; rfl
                      · rw [← Val.rows_snoc]; exact rowOK_put (rowP_ok _ _ _ _ _) (by omega)
                      · rw [List.length_append, List.length_cons, List.length_nil]; omega
                    · rw [if_neg he] at hI
                      simp (maxSteps := 10000000) (disch := first | assumption | omega | (simp only [zy19, zy17, zy18, zy34, zy35, zy36, zy11, zy12, rsL] <;> omega) | with_reducible exact rowOK_nil _ _ | ((repeat' apply rowOK_put) <;> first | assumption | exact rowP_ok _ _ _ _ _ | omega) | (simp only [rsI]; done)) only [↓rsW, ↓rsd, rsu, rsX, zyB, Int.reduceEq, ↓reduceIte, zy0, zy1, zy2, zy3, zy4, zy5, zy6, zy7, zy8, zy9, zy10, zy11, zy12, zy13, zy14, zy15, zy16, Nat.reduceEqDiff, Nat.reduceBEq, Nat.reduceAdd, Nat.reduceMul, Nat.reduceSub, Int.reduceToNat, zy17, zy18, zy19, zy20, Nat.reduceLT, Nat.reduceLeDiff, zy21, zy22, zy23, zy24, zy25, zy26, Int.reduceAdd, Int.reduceMul, Int.reduceSub, Int.reduceNeg, Int.reduceDiv, Int.reduceMod, zy27, e1, e4, e7, e11, e62, e63, e64, oi, oj, ok, oN1, oN3, hc, he]
                      rw [← hI]
                      simp only [he, if_false, Vz_row]
                  · have hq' : q = (df.slots).length := by omega
                    subst hq'
                    rw [List.drop_length] at hI
                    have hI' : zeroL (zeroF p.defs n) (df.slots) [] (l - 1) = (acc, 0, lq) := hI.symm
                    simp (maxSteps := 10000000) (disch := first | assumption | omega | (simp only [zy19, zy17, zy18, zy34, zy35, zy36, zy11, zy12, rsL] <;> omega) | with_reducible exact rowOK_nil _ _ | ((repeat' apply rowOK_put) <;> first | assumption | exact rowP_ok _ _ _ _ _ | omega) | (simp only [rsI]; done)) only [↓rsW, ↓rsd, rsu, rsX, zyB, Int.reduceEq, ↓reduceIte, zy0, zy1, zy2, zy3, zy4, zy5, zy6, zy7, zy8, zy9, zy10, zy11, zy12, zy13, zy14, zy15, zy16, Nat.reduceEqDiff, Nat.reduceBEq, Nat.reduceAdd, Nat.reduceMul, Nat.reduceSub, Int.reduceToNat, zy17, zy18, zy19, zy20, Nat.reduceLT, Nat.reduceLeDiff, zy21, zy22, zy23, zy24, zy25, zy26, Int.reduceAdd, Int.reduceMul, Int.reduceSub, Int.reduceNeg, Int.reduceDiv, Int.reduceMod, zy27, e1, e4, e7, e11, e62, e63, e64, oi, oj, ok, oN1, oN3]
                    rw [hI']
                    simp only [if_true, Val.row_eq, Val.kind_mk, Val.n_mk, Val.kids_mk]
    · rw [if_neg hva]
      have hva' : vT p.defs 24 t = false := by simpa using hva
      rw [hva'] at hvt
      simp (maxSteps := 10000000) (disch := first | assumption | omega | (simp only [zy19, zy17, zy18, zy34, zy35, zy36, zy11, zy12, rsL] <;> omega) | with_reducible exact rowOK_nil _ _ | ((repeat' apply rowOK_put) <;> first | assumption | exact rowP_ok _ _ _ _ _ | omega) | (simp only [rsI]; done)) only [↓rsW, ↓rsd, rsu, rsX, zyB, Int.reduceEq, ↓reduceIte, zy0, zy1, zy2, zy3, zy4, zy5, zy6, zy7, zy8, zy9, zy10, zy11, zy12, zy13, zy14, zy15, zy16, Nat.reduceEqDiff, Nat.reduceBEq, Nat.reduceAdd, Nat.reduceMul, Nat.reduceSub, Int.reduceToNat, zy17, zy18, zy19, zy20, Nat.reduceLT, Nat.reduceLeDiff, zy21, zy22, zy23, zy24, zy25, zy26, Int.reduceAdd, Int.reduceMul, Int.reduceSub, Int.reduceNeg, Int.reduceDiv, Int.reduceMod, zy27, m99, hvt, Vz_row]
end Go.Proofs.Ytoccgkgdhobmfaa.Am.Ru
set_option maxRecDepth 100000
set_option linter.unusedSimpArgs false
set_option linter.unusedVariables false
namespace Go.Proofs.Ytoccgkgdhobmfaa.Am.Ru
open Go
variable {G : Nat → Option (List V)} {E : Nat → Option (CallFn → List V → Hp → Nat → Option Out)}
def zeroV (ds : List Dfn) (t : Typ) : ZR := zeroF ds 24 t 256
theorem zero_ok (hE : XOK E) (p : Prg) (hp : okDs p.defs) (t : Typ) (ht : okT t) : valP (cfW G T E) 53 [.agg p.row, .agg t.row] = some (.ret (.tup [.agg (zeroV p.defs t).v.row, .int .i64 (zeroV p.defs t).e])) := by
  have hc := mak_ok (G := G) hE p hp 24 t 1 256 0 3 4 5 ht rfl (by omega) (by omega) (by omega) (by omega) (by omega) (by omega) (by omega) (by omega)
  rw [show ((1 : Nat) : Int) = 1 from rfl] at hc
  refine xrun 8 (m := m53) hE rfl rfl rfl rfl ?_
  simp (maxSteps := 10000000) (disch := first | assumption | omega | (simp only [zy19, zy17, zy18, zy34, zy35, zy36, zy11, zy12, rsL] <;> omega) | with_reducible exact rowOK_nil _ _ | ((repeat' apply rowOK_put) <;> first | assumption | exact rowP_ok _ _ _ _ _ | omega) | (simp only [rsI]; done)) only [↓rsW, ↓rsd, rsu, rsX, zyB, Int.reduceEq, ↓reduceIte, zy0, zy1, zy2, zy3, zy4, zy5, zy6, zy7, zy8, zy9, zy10, zy11, zy12, zy13, zy14, zy15, zy16, Nat.reduceEqDiff, Nat.reduceBEq, Nat.reduceAdd, Nat.reduceMul, Nat.reduceSub, Int.reduceToNat, zy17, zy18, zy19, zy20, Nat.reduceLT, Nat.reduceLeDiff, zy21, zy22, zy23, zy24, zy25, zy26, Int.reduceAdd, Int.reduceMul, Int.reduceSub, Int.reduceNeg, Int.reduceDiv, Int.reduceMod, zy27, m53, hc]
  rfl
theorem take1_get (l : List Slt) (q : Nat) (h : q < (l.take 1).length) : (l.take 1).getD q Slt.z = l.getD q Slt.z := by
  have h1 : q < 1 := by rw [List.length_take] at h; omega
  rw [List.getD_eq_getElem?_getD, List.getD_eq_getElem?_getD, List.getElem?_take, if_pos h1]
set_option maxHeartbeats 2000000 in
theorem rzero_ok (hE : XOK E) (p : Prg) (hp : okDs p.defs) : ∀ (n : Nat) (t : Typ) (d : Nat) (used : Int), okT t → n + d = 25 → 0 ≤ used → used ≤ 256 → valP (cfW G T E) 100 [.agg p.row, .agg t.row, .int .i64 d, .int .i64 used] =
    some (.ret (.tup [.agg (zeroF p.defs n t (256 - used)).v.row, .int .i64 (256 - (zeroF p.defs n t (256 - used)).l), .int .i64 (zeroF p.defs n t (256 - used)).e])) := by
  intro n
  induction n with
  | zero =>
    intro t d used ht hd h0 h1
    have hvt := rvalid_ok (G := G) hE p t hp.1 ht
    refine xrun 19 (m := m100) hE rfl rfl rfl rfl ?_
    unfold zeroF
    have hz2 : (256 : Int) - (256 - used - 1) = used + 1 := by omega
    have hz3 : (256 : Int) - (256 - used) = used := by omega
    by_cases hva : vT p.defs 24 t = true
    · rw [if_pos hva]
      rw [hva] at hvt
      by_cases c1 : used = 256
      · simp (maxSteps := 10000000) (disch := first | assumption | omega | (simp only [zy19, zy17, zy18, zy34, zy35, zy36, zy11, zy12, rsL] <;> omega) | with_reducible exact rowOK_nil _ _ | ((repeat' apply rowOK_put) <;> first | assumption | exact rowP_ok _ _ _ _ _ | omega) | (simp only [rsI]; done)) only [↓rsW, ↓rsd, rsu, rsX, zyB, Int.reduceEq, ↓reduceIte, zy0, zy1, zy2, zy3, zy4, zy5, zy6, zy7, zy8, zy9, zy10, zy11, zy12, zy13, zy14, zy15, zy16, Nat.reduceEqDiff, Nat.reduceBEq, Nat.reduceAdd, Nat.reduceMul, Nat.reduceSub, Int.reduceToNat, zy17, zy18, zy19, zy20, Nat.reduceLT, Nat.reduceLeDiff, zy21, zy22, zy23, zy24, zy25, zy26, Int.reduceAdd, Int.reduceMul, Int.reduceSub, Int.reduceNeg, Int.reduceDiv, Int.reduceMod, zy27, m100, hvt, Vz_row, hz2, hz3]
      · simp (maxSteps := 10000000) (disch := first | assumption | omega | (simp only [zy19, zy17, zy18, zy34, zy35, zy36, zy11, zy12, rsL] <;> omega) | with_reducible exact rowOK_nil _ _ | ((repeat' apply rowOK_put) <;> first | assumption | exact rowP_ok _ _ _ _ _ | omega) | (simp only [rsI]; done)) only [↓rsW, ↓rsd, rsu, rsX, zyB, Int.reduceEq, ↓reduceIte, zy0, zy1, zy2, zy3, zy4, zy5, zy6, zy7, zy8, zy9, zy10, zy11, zy12, zy13, zy14, zy15, zy16, Nat.reduceEqDiff, Nat.reduceBEq, Nat.reduceAdd, Nat.reduceMul, Nat.reduceSub, Int.reduceToNat, zy17, zy18, zy19, zy20, Nat.reduceLT, Nat.reduceLeDiff, zy21, zy22, zy23, zy24, zy25, zy26, Int.reduceAdd, Int.reduceMul, Int.reduceSub, Int.reduceNeg, Int.reduceDiv, Int.reduceMod, zy27, m100, hvt, Vz_row, hz2, hz3]
    · rw [if_neg hva]
      have hva' : vT p.defs 24 t = false := by simpa using hva
      rw [hva'] at hvt
      simp (maxSteps := 10000000) (disch := first | assumption | omega | (simp only [zy19, zy17, zy18, zy34, zy35, zy36, zy11, zy12, rsL] <;> omega) | with_reducible exact rowOK_nil _ _ | ((repeat' apply rowOK_put) <;> first | assumption | exact rowP_ok _ _ _ _ _ | omega) | (simp only [rsI]; done)) only [↓rsW, ↓rsd, rsu, rsX, zyB, Int.reduceEq, ↓reduceIte, zy0, zy1, zy2, zy3, zy4, zy5, zy6, zy7, zy8, zy9, zy10, zy11, zy12, zy13, zy14, zy15, zy16, Nat.reduceEqDiff, Nat.reduceBEq, Nat.reduceAdd, Nat.reduceMul, Nat.reduceSub, Int.reduceToNat, zy17, zy18, zy19, zy20, Nat.reduceLT, Nat.reduceLeDiff, zy21, zy22, zy23, zy24, zy25, zy26, Int.reduceAdd, Int.reduceMul, Int.reduceSub, Int.reduceNeg, Int.reduceDiv, Int.reduceMod, zy27, m100, hvt, Vz_row, hz2, hz3]
  | succ n ih =>
    intro t d used ht hd h0 h1
    have hvt := rvalid_ok (G := G) hE p t hp.1 ht
    refine xrun 19 (m := m100) hE rfl rfl rfl rfl ?_
    unfold zeroF
    have hz2 : (256 : Int) - (256 - used - 1) = used + 1 := by omega
    have hz3 : (256 : Int) - (256 - used) = used := by omega
    by_cases hva : vT p.defs 24 t = true
    · rw [if_pos hva]
      rw [hva] at hvt
      by_cases c1 : 256 - used - 1 < 0
      · rw [if_pos c1]
        simp (maxSteps := 10000000) (disch := first | assumption | omega | (simp only [zy19, zy17, zy18, zy34, zy35, zy36, zy11, zy12, rsL] <;> omega) | with_reducible exact rowOK_nil _ _ | ((repeat' apply rowOK_put) <;> first | assumption | exact rowP_ok _ _ _ _ _ | omega) | (simp only [rsI]; done)) only [↓rsW, ↓rsd, rsu, rsX, zyB, Int.reduceEq, ↓reduceIte, zy0, zy1, zy2, zy3, zy4, zy5, zy6, zy7, zy8, zy9, zy10, zy11, zy12, zy13, zy14, zy15, zy16, Nat.reduceEqDiff, Nat.reduceBEq, Nat.reduceAdd, Nat.reduceMul, Nat.reduceSub, Int.reduceToNat, zy17, zy18, zy19, zy20, Nat.reduceLT, Nat.reduceLeDiff, zy21, zy22, zy23, zy24, zy25, zy26, Int.reduceAdd, Int.reduceMul, Int.reduceSub, Int.reduceNeg, Int.reduceDiv, Int.reduceMod, zy27, m100, hvt, Vz_row, hz2, hz3]
      · rw [if_neg c1]
        by_cases k0 : t.kind = 0
        · rw [if_pos k0]
          simp (maxSteps := 10000000) (disch := first | assumption | omega | (simp only [zy19, zy17, zy18, zy34, zy35, zy36, zy11, zy12, rsL] <;> omega) | with_reducible exact rowOK_nil _ _ | ((repeat' apply rowOK_put) <;> first | assumption | exact rowP_ok _ _ _ _ _ | omega) | (simp only [rsI]; done)) only [↓rsW, ↓rsd, rsu, rsX, zyB, Int.reduceEq, ↓reduceIte, zy0, zy1, zy2, zy3, zy4, zy5, zy6, zy7, zy8, zy9, zy10, zy11, zy12, zy13, zy14, zy15, zy16, Nat.reduceEqDiff, Nat.reduceBEq, Nat.reduceAdd, Nat.reduceMul, Nat.reduceSub, Int.reduceToNat, zy17, zy18, zy19, zy20, Nat.reduceLT, Nat.reduceLeDiff, zy21, zy22, zy23, zy24, zy25, zy26, Int.reduceAdd, Int.reduceMul, Int.reduceSub, Int.reduceNeg, Int.reduceDiv, Int.reduceMod, zy27, m100, hvt, k0, Vk_row, hz2, hz3]
        · rw [if_neg k0]
          by_cases k1 : t.kind = 1
          · rw [if_pos k1]
            simp (maxSteps := 10000000) (disch := first | assumption | omega | (simp only [zy19, zy17, zy18, zy34, zy35, zy36, zy11, zy12, rsL] <;> omega) | with_reducible exact rowOK_nil _ _ | ((repeat' apply rowOK_put) <;> first | assumption | exact rowP_ok _ _ _ _ _ | omega) | (simp only [rsI]; done)) only [↓rsW, ↓rsd, rsu, rsX, zyB, Int.reduceEq, ↓reduceIte, zy0, zy1, zy2, zy3, zy4, zy5, zy6, zy7, zy8, zy9, zy10, zy11, zy12, zy13, zy14, zy15, zy16, Nat.reduceEqDiff, Nat.reduceBEq, Nat.reduceAdd, Nat.reduceMul, Nat.reduceSub, Int.reduceToNat, zy17, zy18, zy19, zy20, Nat.reduceLT, Nat.reduceLeDiff, zy21, zy22, zy23, zy24, zy25, zy26, Int.reduceAdd, Int.reduceMul, Int.reduceSub, Int.reduceNeg, Int.reduceDiv, Int.reduceMod, zy27, m100, hvt, k1, Vk_row, hz2, hz3]
          · rw [if_neg k1]
            by_cases k2 : t.kind = 2
            · rw [if_pos k2]
              simp (maxSteps := 10000000) (disch := first | assumption | omega | (simp only [zy19, zy17, zy18, zy34, zy35, zy36, zy11, zy12, rsL] <;> omega) | with_reducible exact rowOK_nil _ _ | ((repeat' apply rowOK_put) <;> first | assumption | exact rowP_ok _ _ _ _ _ | omega) | (simp only [rsI]; done)) only [↓rsW, ↓rsd, rsu, rsX, zyB, Int.reduceEq, ↓reduceIte, zy0, zy1, zy2, zy3, zy4, zy5, zy6, zy7, zy8, zy9, zy10, zy11, zy12, zy13, zy14, zy15, zy16, Nat.reduceEqDiff, Nat.reduceBEq, Nat.reduceAdd, Nat.reduceMul, Nat.reduceSub, Int.reduceToNat, zy17, zy18, zy19, zy20, Nat.reduceLT, Nat.reduceLeDiff, zy21, zy22, zy23, zy24, zy25, zy26, Int.reduceAdd, Int.reduceMul, Int.reduceSub, Int.reduceNeg, Int.reduceDiv, Int.reduceMod, zy27, m100, hvt, k2, Vk_row, hz2, hz3]
            · rw [if_neg k2]
              have hd' := rdef_ok (G := G) hE p t.ref hp.1
              have hok := okD_def hp t.ref
              generalize defD p.defs t.ref = df at hd' hok ⊢
              have hzs := zSlots_ok hok
              have hzb := zeroF_le p.defs n
              have hlen := hok.1
              unfold zeroD
              by_cases d1 : df.kind = 1
              · by_cases s0 : df.slots.length = 0
                · rw [if_pos ⟨d1, s0⟩]
                  simp (maxSteps := 10000000) (disch := first | assumption | omega | (simp only [zy19, zy17, zy18, zy34, zy35, zy36, zy11, zy12, rsL] <;> omega) | with_reducible exact rowOK_nil _ _ | ((repeat' apply rowOK_put) <;> first | assumption | exact rowP_ok _ _ _ _ _ | omega) | (simp only [rsI]; done)) only [↓rsW, ↓rsd, rsu, rsX, zyB, Int.reduceEq, ↓reduceIte, zy0, zy1, zy2, zy3, zy4, zy5, zy6, zy7, zy8, zy9, zy10, zy11, zy12, zy13, zy14, zy15, zy16, Nat.reduceEqDiff, Nat.reduceBEq, Nat.reduceAdd, Nat.reduceMul, Nat.reduceSub, Int.reduceToNat, zy17, zy18, zy19, zy20, Nat.reduceLT, Nat.reduceLeDiff, zy21, zy22, zy23, zy24, zy25, zy26, Int.reduceAdd, Int.reduceMul, Int.reduceSub, Int.reduceNeg, Int.reduceDiv, Int.reduceMod, zy27, m100, hvt, k0, k1, k2, hd', d1, s0, Vz_row, hz2, hz3]
                · rw [if_neg (fun h => s0 h.2)]
                  rw [show zSlots df = df.slots.take 1 from if_pos d1] at hzs ⊢
                  rw [show zKind df = 3 from if_pos d1]
                  have hz1 : (df.slots.take 1).length = 1 := by rw [List.length_take]; omega
                  have hz2 : (df.slots.take 1).length ≤ df.slots.length := by omega
                  have hz3 := take1_get df.slots
                  simp (maxSteps := 10000000) (disch := first | assumption | omega | (simp only [zy19, zy17, zy18, zy34, zy35, zy36, zy11, zy12, rsL] <;> omega) | with_reducible exact rowOK_nil _ _ | ((repeat' apply rowOK_put) <;> first | assumption | exact rowP_ok _ _ _ _ _ | omega) | (simp only [rsI]; done)) only [↓rsW, ↓rsd, rsu, rsX, zyB, Int.reduceEq, ↓reduceIte, zy0, zy1, zy2, zy3, zy4, zy5, zy6, zy7, zy8, zy9, zy10, zy11, zy12, zy13, zy14, zy15, zy16, Nat.reduceEqDiff, Nat.reduceBEq, Nat.reduceAdd, Nat.reduceMul, Nat.reduceSub, Int.reduceToNat, zy17, zy18, zy19, zy20, Nat.reduceLT, Nat.reduceLeDiff, zy21, zy22, zy23, zy24, zy25, zy26, Int.reduceAdd, Int.reduceMul, Int.reduceSub, Int.reduceNeg, Int.reduceDiv, Int.reduceMod, zy27, m100, hvt, k0, k1, k2, hd', d1]
                  refine go_loop2 19 (fun n' s => ∃ (q jj : Nat) (acc : List Val) (lq : Int), n' = (df.slots.take 1).length - q ∧ q ≤ (df.slots.take 1).length ∧ acc.length = q ∧ (5 ≤ s.N ∧ (jj < s.N ∧ 5 ≤ jj ∨ acc = [] ∧ s.N = 5 ∧ jj = 1000)) ∧ s.e 2 = .int .i64 d ∧ s.e 3 = .int .i64 (256 - lq) ∧ s.e 4 = .ptr 0 0 ∧ s.e 8 = .ptr 2 0 ∧ s.e 11 = .ptr 3 0 ∧ s.e 13 = .ptr 4 0 ∧
                    s.e 14 = .int .i64 (df.slots.take 1).length ∧ s.e 15 = .int .i64 q ∧ s.o 0 = .box p.row ∧ s.o 2 = .box [.int .i64 0, .int .i64 0, .nils 3] ∧ s.o 3 = .box df.row ∧ s.o 4 = .box [.int .i64 3, .int .i64 0, rowV 3 jj (Val.rows acc)] ∧ RowOK s.o 3 jj (Val.rows acc) ∧
                    0 ≤ lq ∧ acc.length + lq ≤ 255 ∧ zeroL (zeroF p.defs n) ((df.slots.take 1).drop q) acc lq = zeroL (zeroF p.defs n) (df.slots.take 1) [] (256 - used - 1)) (df.slots.take 1).length ?_ ?_
                  · refine ⟨0, 1000, [], 256 - used - 1, rfl, by omega, rfl, ⟨Nat.le_refl _, .inr ⟨rfl, rfl, rfl⟩⟩, ?_⟩
                    simp (maxSteps := 10000000) (disch := first | assumption | omega | (simp only [zy19, zy17, zy18, zy34, zy35, zy36, zy11, zy12, rsL] <;> omega) | with_reducible exact rowOK_nil _ _ | ((repeat' apply rowOK_put) <;> first | assumption | exact rowP_ok _ _ _ _ _ | omega) | (simp only [rsI]; done)) only [↓rsW, ↓rsd, rsu, rsX, zyB, Int.reduceEq, ↓reduceIte, zy0, zy1, zy2, zy3, zy4, zy5, zy6, zy7, zy8, zy9, zy10, zy11, zy12, zy13, zy14, zy15, zy16, Nat.reduceEqDiff, Nat.reduceBEq, Nat.reduceAdd, Nat.reduceMul, Nat.reduceSub, Int.reduceToNat, zy17, zy18, zy19, zy20, Nat.reduceLT, Nat.reduceLeDiff, zy21, zy22, zy23, zy24, zy25, zy26, Int.reduceAdd, Int.reduceMul, Int.reduceSub, Int.reduceNeg, Int.reduceDiv, Int.reduceMod, zy27, hz1]
                    refine ⟨by congr 1; omega, ?_⟩
                    first | exact ⟨rfl, rfl, rfl, rowOK_nil _ _, by omega, by omega⟩ | exact ⟨rfl, rfl, rowOK_nil _ _, by omega, by omega⟩
                  · rintro n' e o M ⟨q, jj, acc, lq, hn, hq, hal, hM, e2, e3, e4, e8, e11, e13, e14, e15, o0, o2, o3, o4, hrow, hl0, hl1, hI⟩
                    simp only at hM e2 e3 e4 e8 e11 e13 e14 e15 o0 o2 o3 o4 hrow
                    have hjj : ¬ (jj = 0) ∧ ¬ (jj = 2) ∧ ¬ (jj = 3) ∧ ¬ (jj = 4) ∧ ¬ (jj = M) ∧ ¬ (jj = M + 1) ∧ ¬ (jj = M + 2) := by
                      rcases hM.2 with h | h
                      · omega
                      · omega
                    obtain ⟨j1, j2, j3, j4, j5, j6, j7⟩ := hjj
                    have hM0 := hM.1
                    by_cases hlt : q < (df.slots.take 1).length
                    · have hx := getD_mem (df.slots.take 1) q Slt.z hlt
                      have hlt2 : q < df.slots.length := by have := hz2; omega
                      have hsl : (df.slots.take 1).getD q Slt.z = df.slots.getD q Slt.z := hz3 q hlt
                      have hc := ih (df.slots.getD q Slt.z).ty (d + 1) (256 - lq) (by rw [← hsl]; exact hzs.2 _ hx) (by omega) (by omega) (by omega)
                      rw [nc1, show (256 - (256 - lq) : Int) = lq by omega] at hc
                      have hle := hzb (df.slots.getD q Slt.z).ty lq hl0
                      rw [drop_getD (df.slots.take 1) q Slt.z hlt, zeroL_cons, hsl] at hI
                      by_cases he : (zeroF p.defs n (df.slots.getD q Slt.z).ty lq).e = 0
                      · rw [if_pos he] at hI
                        have h9 := hle.2.2 he
                        simp (maxSteps := 10000000) (disch := first | assumption | omega | (simp only [zy19, zy17, zy18, zy34, zy35, zy36, zy11, zy12, rsL] <;> omega) | with_reducible exact rowOK_nil _ _ | ((repeat' apply rowOK_put) <;> first | assumption | exact rowP_ok _ _ _ _ _ | omega) | (simp only [rsI]; done)) only [↓rsW, ↓rsd, rsu, rsX, zyB, Int.reduceEq, ↓reduceIte, zy0, zy1, zy2, zy3, zy4, zy5, zy6, zy7, zy8, zy9, zy10, zy11, zy12, zy13, zy14, zy15, zy16, Nat.reduceEqDiff, Nat.reduceBEq, Nat.reduceAdd, Nat.reduceMul, Nat.reduceSub, Int.reduceToNat, zy17, zy18, zy19, zy20, Nat.reduceLT, Nat.reduceLeDiff, zy21, zy22, zy23, zy24, zy25, zy26, Int.reduceAdd, Int.reduceMul, Int.reduceSub, Int.reduceNeg, Int.reduceDiv, Int.reduceMod, zy27, e2, e3, e4, e8, e11, e13, e14, e15, o0, o2, o3, o4, hc, he]
                        refine ⟨_, by omega, q + 1, M + 1, _, _, rfl, by omega, ?_, by omega, rfl, rfl, rfl, ?_, h9.1, ?_, hI⟩
                        · rw [List.length_append, hal]; rfl
                        · rw [← Val.rows_snoc]; exact rowOK_put (rowP_ok _ _ _ _ _) (by omega)
                        · rw [List.length_append, List.length_cons, List.length_nil]; omega
                      · rw [if_neg he] at hI
                        simp (maxSteps := 10000000) (disch := first | assumption | omega | (simp only [zy19, zy17, zy18, zy34, zy35, zy36, zy11, zy12, rsL] <;> omega) | with_reducible exact rowOK_nil _ _ | ((repeat' apply rowOK_put) <;> first | assumption | exact rowP_ok _ _ _ _ _ | omega) | (simp only [rsI]; done)) only [↓rsW, ↓rsd, rsu, rsX, zyB, Int.reduceEq, ↓reduceIte, zy0, zy1, zy2, zy3, zy4, zy5, zy6, zy7, zy8, zy9, zy10, zy11, zy12, zy13, zy14, zy15, zy16, Nat.reduceEqDiff, Nat.reduceBEq, Nat.reduceAdd, Nat.reduceMul, Nat.reduceSub, Int.reduceToNat, zy17, zy18, zy19, zy20, Nat.reduceLT, Nat.reduceLeDiff, zy21, zy22, zy23, zy24, zy25, zy26, Int.reduceAdd, Int.reduceMul, Int.reduceSub, Int.reduceNeg, Int.reduceDiv, Int.reduceMod, zy27, e2, e3, e4, e8, e11, e13, e14, e15, o0, o2, o3, o4, hc, he]
                        rw [← hI]
                        simp only [he, if_false, Vz_row]
                    · have hq' : q = (df.slots.take 1).length := by omega
                      subst hq'
                      rw [List.drop_length] at hI
                      have hI' : zeroL (zeroF p.defs n) (df.slots.take 1) [] (256 - used - 1) = (acc, 0, lq) := hI.symm
                      simp (maxSteps := 10000000) (disch := first | assumption | omega | (simp only [zy19, zy17, zy18, zy34, zy35, zy36, zy11, zy12, rsL] <;> omega) | with_reducible exact rowOK_nil _ _ | ((repeat' apply rowOK_put) <;> first | assumption | exact rowP_ok _ _ _ _ _ | omega) | (simp only [rsI]; done)) only [↓rsW, ↓rsd, rsu, rsX, zyB, Int.reduceEq, ↓reduceIte, zy0, zy1, zy2, zy3, zy4, zy5, zy6, zy7, zy8, zy9, zy10, zy11, zy12, zy13, zy14, zy15, zy16, Nat.reduceEqDiff, Nat.reduceBEq, Nat.reduceAdd, Nat.reduceMul, Nat.reduceSub, Int.reduceToNat, zy17, zy18, zy19, zy20, Nat.reduceLT, Nat.reduceLeDiff, zy21, zy22, zy23, zy24, zy25, zy26, Int.reduceAdd, Int.reduceMul, Int.reduceSub, Int.reduceNeg, Int.reduceDiv, Int.reduceMod, zy27, e2, e3, e4, e8, e11, e13, e14, e15, o0, o2, o3, o4]
                      rw [hI']
                      simp only [if_true, Val.row_eq, Val.kind_mk, Val.n_mk, Val.kids_mk]
              · rw [if_neg (fun h => d1 h.1)]
                rw [show zSlots df = df.slots from if_neg d1] at hzs ⊢
                rw [show zKind df = 2 from if_neg d1]
                have hz1 : df.slots.length = df.slots.length := rfl
                have hz2 : df.slots.length ≤ df.slots.length := Nat.le_refl _
                have hz3 : ∀ q, q < df.slots.length → df.slots.getD q Slt.z = df.slots.getD q Slt.z := fun _ _ => rfl
                simp (maxSteps := 10000000) (disch := first | assumption | omega | (simp only [zy19, zy17, zy18, zy34, zy35, zy36, zy11, zy12, rsL] <;> omega) | with_reducible exact rowOK_nil _ _ | ((repeat' apply rowOK_put) <;> first | assumption | exact rowP_ok _ _ _ _ _ | omega) | (simp only [rsI]; done)) only [↓rsW, ↓rsd, rsu, rsX, zyB, Int.reduceEq, ↓reduceIte, zy0, zy1, zy2, zy3, zy4, zy5, zy6, zy7, zy8, zy9, zy10, zy11, zy12, zy13, zy14, zy15, zy16, Nat.reduceEqDiff, Nat.reduceBEq, Nat.reduceAdd, Nat.reduceMul, Nat.reduceSub, Int.reduceToNat, zy17, zy18, zy19, zy20, Nat.reduceLT, Nat.reduceLeDiff, zy21, zy22, zy23, zy24, zy25, zy26, Int.reduceAdd, Int.reduceMul, Int.reduceSub, Int.reduceNeg, Int.reduceDiv, Int.reduceMod, zy27, m100, hvt, k0, k1, k2, hd', d1]
                refine go_loop2 19 (fun n' s => ∃ (q jj : Nat) (acc : List Val) (lq : Int), n' = (df.slots).length - q ∧ q ≤ (df.slots).length ∧ acc.length = q ∧ (5 ≤ s.N ∧ (jj < s.N ∧ 5 ≤ jj ∨ acc = [] ∧ s.N = 5 ∧ jj = 1000)) ∧ s.e 2 = .int .i64 d ∧ s.e 3 = .int .i64 (256 - lq) ∧ s.e 4 = .ptr 0 0 ∧ s.e 8 = .ptr 2 0 ∧ s.e 11 = .ptr 3 0 ∧ s.e 13 = .ptr 4 0 ∧
                  s.e 14 = .int .i64 (df.slots).length ∧ s.e 15 = .int .i64 q ∧ s.o 0 = .box p.row ∧ s.o 2 = .box [.int .i64 0, .int .i64 0, .nils 3] ∧ s.o 3 = .box df.row ∧ s.o 4 = .box [.int .i64 2, .int .i64 0, rowV 3 jj (Val.rows acc)] ∧ RowOK s.o 3 jj (Val.rows acc) ∧
                  0 ≤ lq ∧ acc.length + lq ≤ 255 ∧ zeroL (zeroF p.defs n) ((df.slots).drop q) acc lq = zeroL (zeroF p.defs n) (df.slots) [] (256 - used - 1)) (df.slots).length ?_ ?_
                · refine ⟨0, 1000, [], 256 - used - 1, rfl, by omega, rfl, ⟨Nat.le_refl _, .inr ⟨rfl, rfl, rfl⟩⟩, ?_⟩
                  simp (maxSteps := 10000000) (disch := first | assumption | omega | (simp only [zy19, zy17, zy18, zy34, zy35, zy36, zy11, zy12, rsL] <;> omega) | with_reducible exact rowOK_nil _ _ | ((repeat' apply rowOK_put) <;> first | assumption | exact rowP_ok _ _ _ _ _ | omega) | (simp only [rsI]; done)) only [↓rsW, ↓rsd, rsu, rsX, zyB, Int.reduceEq, ↓reduceIte, zy0, zy1, zy2, zy3, zy4, zy5, zy6, zy7, zy8, zy9, zy10, zy11, zy12, zy13, zy14, zy15, zy16, Nat.reduceEqDiff, Nat.reduceBEq, Nat.reduceAdd, Nat.reduceMul, Nat.reduceSub, Int.reduceToNat, zy17, zy18, zy19, zy20, Nat.reduceLT, Nat.reduceLeDiff, zy21, zy22, zy23, zy24, zy25, zy26, Int.reduceAdd, Int.reduceMul, Int.reduceSub, Int.reduceNeg, Int.reduceDiv, Int.reduceMod, zy27]
                  refine ⟨by congr 1; omega, ?_⟩
                  first | exact ⟨rfl, rfl, rfl, rowOK_nil _ _, by omega, by omega⟩ | exact ⟨rfl, rfl, rowOK_nil _ _, by omega, by omega⟩
                · rintro n' e o M ⟨q, jj, acc, lq, hn, hq, hal, hM, e2, e3, e4, e8, e11, e13, e14, e15, o0, o2, o3, o4, hrow, hl0, hl1, hI⟩
                  simp only at hM e2 e3 e4 e8 e11 e13 e14 e15 o0 o2 o3 o4 hrow
                  have hjj : ¬ (jj = 0) ∧ ¬ (jj = 2) ∧ ¬ (jj = 3) ∧ ¬ (jj = 4) ∧ ¬ (jj = M) ∧ ¬ (jj = M + 1) ∧ ¬ (jj = M + 2) := by
                    rcases hM.2 with h | h
                    · omega
                    · omega
                  obtain ⟨j1, j2, j3, j4, j5, j6, j7⟩ := hjj
                  have hM0 := hM.1
                  by_cases hlt : q < (df.slots).length
                  · have hx := getD_mem (df.slots) q Slt.z hlt
                    have hlt2 : q < df.slots.length := by have := hz2; omega
                    have hsl : (df.slots).getD q Slt.z = df.slots.getD q Slt.z := hz3 q hlt
                    have hc := ih (df.slots.getD q Slt.z).ty (d + 1) (256 - lq) (by rw [← hsl]; exact hzs.2 _ hx) (by omega) (by omega) (by omega)
                    rw [nc1, show (256 - (256 - lq) : Int) = lq by omega] at hc
                    have hle := hzb (df.slots.getD q Slt.z).ty lq hl0
                    rw [drop_getD (df.slots) q Slt.z hlt, zeroL_cons, hsl] at hI
                    by_cases he : (zeroF p.defs n (df.slots.getD q Slt.z).ty lq).e = 0
                    · rw [if_pos he] at hI
                      have h9 := hle.2.2 he
                      simp (maxSteps := 10000000) (disch := first | assumption | omega | (simp only [zy19, zy17, zy18, zy34, zy35, zy36, zy11, zy12, rsL] <;> omega) | with_reducible exact rowOK_nil _ _ | ((repeat' apply rowOK_put) <;> first | assumption | exact rowP_ok _ _ _ _ _ | omega) | (simp only [rsI]; done)) only [↓rsW, ↓rsd, rsu, rsX, zyB, Int.reduceEq, ↓reduceIte, zy0, zy1, zy2, zy3, zy4, zy5, zy6, zy7, zy8, zy9, zy10, zy11, zy12, zy13, zy14, zy15, zy16, Nat.reduceEqDiff, Nat.reduceBEq, Nat.reduceAdd, Nat.reduceMul, Nat.reduceSub, Int.reduceToNat, zy17, zy18, zy19, zy20, Nat.reduceLT, Nat.reduceLeDiff, zy21, zy22, zy23, zy24, zy25, zy26, Int.reduceAdd, Int.reduceMul, Int.reduceSub, Int.reduceNeg, Int.reduceDiv, Int.reduceMod, zy27, e2, e3, e4, e8, e11, e13, e14, e15, o0, o2, o3, o4, hc, he]
                      refine ⟨_, by omega, q + 1, M + 1, _, _, rfl, by omega, ?_, by omega, rfl, rfl, rfl, ?_, h9.1, ?_, hI⟩
                      · rw [List.length_append, hal]; rfl
                      · rw [← Val.rows_snoc]; exact rowOK_put (rowP_ok _ _ _ _ _) (by omega)
                      · rw [List.length_append, List.length_cons, List.length_nil]; omega
                    · rw [if_neg he] at hI
                      simp (maxSteps := 10000000) (disch := first | assumption | omega | (simp only [zy19, zy17, zy18, zy34, zy35, zy36, zy11, zy12, rsL] <;> omega) | with_reducible exact rowOK_nil _ _ | ((repeat' apply rowOK_put) <;> first | assumption | exact rowP_ok _ _ _ _ _ | omega) | (simp only [rsI]; done)) only [↓rsW, ↓rsd, rsu, rsX, zyB, Int.reduceEq, ↓reduceIte, zy0, zy1, zy2, zy3, zy4, zy5, zy6, zy7, zy8, zy9, zy10, zy11, zy12, zy13, zy14, zy15, zy16, Nat.reduceEqDiff, Nat.reduceBEq, Nat.reduceAdd, Nat.reduceMul, Nat.reduceSub, Int.reduceToNat, zy17, zy18, zy19, zy20, Nat.reduceLT, Nat.reduceLeDiff, zy21, zy22, zy23, zy24, zy25, zy26, Int.reduceAdd, Int.reduceMul, Int.reduceSub, Int.reduceNeg, Int.reduceDiv, Int.reduceMod, zy27, e2, e3, e4, e8, e11, e13, e14, e15, o0, o2, o3, o4, hc, he]
                      rw [← hI]
                      simp only [he, if_false, Vz_row]
                  · have hq' : q = (df.slots).length := by omega
                    subst hq'
                    rw [List.drop_length] at hI
                    have hI' : zeroL (zeroF p.defs n) (df.slots) [] (256 - used - 1) = (acc, 0, lq) := hI.symm
                    simp (maxSteps := 10000000) (disch := first | assumption | omega | (simp only [zy19, zy17, zy18, zy34, zy35, zy36, zy11, zy12, rsL] <;> omega) | with_reducible exact rowOK_nil _ _ | ((repeat' apply rowOK_put) <;> first | assumption | exact rowP_ok _ _ _ _ _ | omega) | (simp only [rsI]; done)) only [↓rsW, ↓rsd, rsu, rsX, zyB, Int.reduceEq, ↓reduceIte, zy0, zy1, zy2, zy3, zy4, zy5, zy6, zy7, zy8, zy9, zy10, zy11, zy12, zy13, zy14, zy15, zy16, Nat.reduceEqDiff, Nat.reduceBEq, Nat.reduceAdd, Nat.reduceMul, Nat.reduceSub, Int.reduceToNat, zy17, zy18, zy19, zy20, Nat.reduceLT, Nat.reduceLeDiff, zy21, zy22, zy23, zy24, zy25, zy26, Int.reduceAdd, Int.reduceMul, Int.reduceSub, Int.reduceNeg, Int.reduceDiv, Int.reduceMod, zy27, e2, e3, e4, e8, e11, e13, e14, e15, o0, o2, o3, o4]
                    rw [hI']
                    simp only [if_true, Val.row_eq, Val.kind_mk, Val.n_mk, Val.kids_mk]
    · rw [if_neg hva]
      have hva' : vT p.defs 24 t = false := by simpa using hva
      rw [hva'] at hvt
      simp (maxSteps := 10000000) (disch := first | assumption | omega | (simp only [zy19, zy17, zy18, zy34, zy35, zy36, zy11, zy12, rsL] <;> omega) | with_reducible exact rowOK_nil _ _ | ((repeat' apply rowOK_put) <;> first | assumption | exact rowP_ok _ _ _ _ _ | omega) | (simp only [rsI]; done)) only [↓rsW, ↓rsd, rsu, rsX, zyB, Int.reduceEq, ↓reduceIte, zy0, zy1, zy2, zy3, zy4, zy5, zy6, zy7, zy8, zy9, zy10, zy11, zy12, zy13, zy14, zy15, zy16, Nat.reduceEqDiff, Nat.reduceBEq, Nat.reduceAdd, Nat.reduceMul, Nat.reduceSub, Int.reduceToNat, zy17, zy18, zy19, zy20, Nat.reduceLT, Nat.reduceLeDiff, zy21, zy22, zy23, zy24, zy25, zy26, Int.reduceAdd, Int.reduceMul, Int.reduceSub, Int.reduceNeg, Int.reduceDiv, Int.reduceMod, zy27, m100, hvt, Vz_row, hz2, hz3]
theorem rzeroV_ok (hE : XOK E) (p : Prg) (hp : okDs p.defs) (t : Typ) (ht : okT t) : valP (cfW G T E) 54 [.agg p.row, .agg t.row] = some (.ret (.tup [.agg (if (zeroV p.defs t).e = 0 then (zeroV p.defs t).v else Val.z).row, .int .i64 (zeroV p.defs t).e])) := by
  have hc := rzero_ok (G := G) hE p hp 24 t 1 0 ht rfl (by omega) (by omega)
  rw [show ((1 : Nat) : Int) = 1 from rfl, show (256 - 0 : Int) = 256 from rfl] at hc
  refine xrun 9 (m := m54) hE rfl rfl rfl rfl ?_
  unfold zeroV
  by_cases he : (zeroF p.defs 24 t 256).e = 0
  · rw [if_pos he]
    simp (maxSteps := 10000000) (disch := first | assumption | omega | (simp only [zy19, zy17, zy18, zy34, zy35, zy36, zy11, zy12, rsL] <;> omega) | with_reducible exact rowOK_nil _ _ | ((repeat' apply rowOK_put) <;> first | assumption | exact rowP_ok _ _ _ _ _ | omega) | (simp only [rsI]; done)) only [↓rsW, ↓rsd, rsu, rsX, zyB, Int.reduceEq, ↓reduceIte, zy0, zy1, zy2, zy3, zy4, zy5, zy6, zy7, zy8, zy9, zy10, zy11, zy12, zy13, zy14, zy15, zy16, Nat.reduceEqDiff, Nat.reduceBEq, Nat.reduceAdd, Nat.reduceMul, Nat.reduceSub, Int.reduceToNat, zy17, zy18, zy19, zy20, Nat.reduceLT, Nat.reduceLeDiff, zy21, zy22, zy23, zy24, zy25, zy26, Int.reduceAdd, Int.reduceMul, Int.reduceSub, Int.reduceNeg, Int.reduceDiv, Int.reduceMod, zy27, m54, hc, he]
  · rw [if_neg he]
    simp (maxSteps := 10000000) (disch := first | assumption | omega | (simp only [zy19, zy17, zy18, zy34, zy35, zy36, zy11, zy12, rsL] <;> omega) | with_reducible exact rowOK_nil _ _ | ((repeat' apply rowOK_put) <;> first | assumption | exact rowP_ok _ _ _ _ _ | omega) | (simp only [rsI]; done)) only [↓rsW, ↓rsd, rsu, rsX, zyB, Int.reduceEq, ↓reduceIte, zy0, zy1, zy2, zy3, zy4, zy5, zy6, zy7, zy8, zy9, zy10, zy11, zy12, zy13, zy14, zy15, zy16, Nat.reduceEqDiff, Nat.reduceBEq, Nat.reduceAdd, Nat.reduceMul, Nat.reduceSub, Int.reduceToNat, zy17, zy18, zy19, zy20, Nat.reduceLT, Nat.reduceLeDiff, zy21, zy22, zy23, zy24, zy25, zy26, Int.reduceAdd, Int.reduceMul, Int.reduceSub, Int.reduceNeg, Int.reduceDiv, Int.reduceMod, zy27, m54, hc, he, Vz_row]
end Go.Proofs.Ytoccgkgdhobmfaa.Am.Ru
set_option maxRecDepth 100000
set_option linter.unusedSimpArgs false
set_option linter.unusedVariables false
namespace Go.Proofs.Ytoccgkgdhobmfaa.Am.Ru
open Go
variable {G : Nat → Option (List V)} {E : Nat → Option (CallFn → List V → Hp → Nat → Option Out)}
theorem rep8_stand (n : Nat) : ∀ l ∈ List.replicate n [V.int .u8 ((0 : Nat) : Int)], ∀ v ∈ l, stand v = true := by
  intro l hl v hv
  rw [List.eq_of_mem_replicate hl] at hv
  simp only [List.mem_singleton] at hv
  subst hv; rfl
theorem growB_ok (hE : XOK E) (n : Int) (h0 : 0 < n) (h1 : n ≤ 10000000000) : valP (cfW G T E) 135 [.nils 1, .int .i64 n] = some (.ret (.own 1 [])) := by
  have hsub : n - (0 - 0) = n := by omega
  have hp : ∀ i : Nat, rsv (hput dd i (.vec 1 (List.replicate n.toNat [V.int .u8 ((0 : Nat) : Int)]))) 0 i 0 (.vec 1 (List.replicate n.toNat [V.int .u8 ((0 : Nat) : Int)])) = some (.own 1 [], [(i, .vec 1 [])]) := fun i =>
    rsv_pre 0 i 0 1 _ (Nat.zero_le _) (Nat.zero_le _) (rep8_stand _)
  refine xrun 4 (m := m135) hE rfl rfl rfl rfl ?_
  simp (maxSteps := 10000000) (disch := first | assumption | omega | (simp only [zy19, zy17, zy18, zy34, zy35, zy36, zy11, zy12, rsL] <;> omega) | with_reducible exact rowOK_nil _ _ | ((repeat' apply rowOK_put) <;> first | assumption | exact rowP_ok _ _ _ _ _ | omega) | (simp only [rsI]; done)) only [↓rsW, ↓rsd, rsu, rsX, zyB, Int.reduceEq, ↓reduceIte, zy0, zy1, zy2, zy3, zy4, zy5, zy6, zy7, zy8, zy9, zy10, zy11, zy12, zy13, zy14, zy15, zy16, Nat.reduceEqDiff, Nat.reduceBEq, Nat.reduceAdd, Nat.reduceMul, Nat.reduceSub, Int.reduceToNat, zy17, zy18, zy19, zy20, Nat.reduceLT, Nat.reduceLeDiff, zy21, zy22, zy23, zy24, zy25, zy26, Int.reduceAdd, Int.reduceMul, Int.reduceSub, Int.reduceNeg, Int.reduceDiv, Int.reduceMod, zy27, m135, hsub, hp, Int.sub_zero]
theorem concat3_ok (hE : XOK E) (a b c : List UInt8) (h : 0 < a.length) (hl : a.length + b.length + c.length ≤ 10000000000) : valP (cfW G T E) 102 [.sl 1 [[.sl 1 (bytesV a)], [.sl 1 (bytesV b)], [.sl 1 (bytesV c)]]] = some (.ret (.own 1 (bytesV (a ++ b ++ c)))) := by
  refine xrun 9 (m := m102) hE rfl rfl rfl rfl ?_
  simp (maxSteps := 10000000) (disch := first | assumption | omega | (simp only [zy19, zy17, zy18, zy34, zy35, zy36, zy11, zy12, rsL] <;> omega) | with_reducible exact rowOK_nil _ _ | ((repeat' apply rowOK_put) <;> first | assumption | exact rowP_ok _ _ _ _ _ | omega) | (simp only [rsI]; done)) only [↓rsW, ↓rsd, rsu, rsX, zyB, Int.reduceEq, ↓reduceIte, zy0, zy1, zy2, zy3, zy4, zy5, zy6, zy7, zy8, zy9, zy10, zy11, zy12, zy13, zy14, zy15, zy16, Nat.reduceEqDiff, Nat.reduceBEq, Nat.reduceAdd, Nat.reduceMul, Nat.reduceSub, Int.reduceToNat, zy17, zy18, zy19, zy20, Nat.reduceLT, Nat.reduceLeDiff, zy21, zy22, zy23, zy24, zy25, zy26, Int.reduceAdd, Int.reduceMul, Int.reduceSub, Int.reduceNeg, Int.reduceDiv, Int.reduceMod, zy27, m102]
  refine go_once ?_
  simp (maxSteps := 10000000) (disch := first | assumption | omega | (simp only [zy19, zy17, zy18, zy34, zy35, zy36, zy11, zy12, rsL] <;> omega) | with_reducible exact rowOK_nil _ _ | ((repeat' apply rowOK_put) <;> first | assumption | exact rowP_ok _ _ _ _ _ | omega) | (simp only [rsI]; done)) only [↓rsW, ↓rsd, rsu, rsX, zyB, Int.reduceEq, ↓reduceIte, zy0, zy1, zy2, zy3, zy4, zy5, zy6, zy7, zy8, zy9, zy10, zy11, zy12, zy13, zy14, zy15, zy16, Nat.reduceEqDiff, Nat.reduceBEq, Nat.reduceAdd, Nat.reduceMul, Nat.reduceSub, Int.reduceToNat, zy17, zy18, zy19, zy20, Nat.reduceLT, Nat.reduceLeDiff, zy21, zy22, zy23, zy24, zy25, zy26, Int.reduceAdd, Int.reduceMul, Int.reduceSub, Int.reduceNeg, Int.reduceDiv, Int.reduceMod, zy27]
  refine go_once ?_
  simp (maxSteps := 10000000) (disch := first | assumption | omega | (simp only [zy19, zy17, zy18, zy34, zy35, zy36, zy11, zy12, rsL] <;> omega) | with_reducible exact rowOK_nil _ _ | ((repeat' apply rowOK_put) <;> first | assumption | exact rowP_ok _ _ _ _ _ | omega) | (simp only [rsI]; done)) only [↓rsW, ↓rsd, rsu, rsX, zyB, Int.reduceEq, ↓reduceIte, zy0, zy1, zy2, zy3, zy4, zy5, zy6, zy7, zy8, zy9, zy10, zy11, zy12, zy13, zy14, zy15, zy16, Nat.reduceEqDiff, Nat.reduceBEq, Nat.reduceAdd, Nat.reduceMul, Nat.reduceSub, Int.reduceToNat, zy17, zy18, zy19, zy20, Nat.reduceLT, Nat.reduceLeDiff, zy21, zy22, zy23, zy24, zy25, zy26, Int.reduceAdd, Int.reduceMul, Int.reduceSub, Int.reduceNeg, Int.reduceDiv, Int.reduceMod, zy27]
  refine go_once ?_
  simp (maxSteps := 10000000) (disch := first | assumption | omega | (simp only [zy19, zy17, zy18, zy34, zy35, zy36, zy11, zy12, rsL] <;> omega) | with_reducible exact rowOK_nil _ _ | ((repeat' apply rowOK_put) <;> first | assumption | exact rowP_ok _ _ _ _ _ | omega) | (simp only [rsI]; done)) only [↓rsW, ↓rsd, rsu, rsX, zyB, Int.reduceEq, ↓reduceIte, zy0, zy1, zy2, zy3, zy4, zy5, zy6, zy7, zy8, zy9, zy10, zy11, zy12, zy13, zy14, zy15, zy16, Nat.reduceEqDiff, Nat.reduceBEq, Nat.reduceAdd, Nat.reduceMul, Nat.reduceSub, Int.reduceToNat, zy17, zy18, zy19, zy20, Nat.reduceLT, Nat.reduceLeDiff, zy21, zy22, zy23, zy24, zy25, zy26, Int.reduceAdd, Int.reduceMul, Int.reduceSub, Int.reduceNeg, Int.reduceDiv, Int.reduceMod, zy27]
  refine go_once ?_
  simp (maxSteps := 10000000) (disch := first | assumption | omega | (simp only [zy19, zy17, zy18, zy34, zy35, zy36, zy11, zy12, rsL] <;> omega) | with_reducible exact rowOK_nil _ _ | ((repeat' apply rowOK_put) <;> first | assumption | exact rowP_ok _ _ _ _ _ | omega) | (simp only [rsI]; done)) only [↓rsW, ↓rsd, rsu, rsX, zyB, Int.reduceEq, ↓reduceIte, zy0, zy1, zy2, zy3, zy4, zy5, zy6, zy7, zy8, zy9, zy10, zy11, zy12, zy13, zy14, zy15, zy16, Nat.reduceEqDiff, Nat.reduceBEq, Nat.reduceAdd, Nat.reduceMul, Nat.reduceSub, Int.reduceToNat, zy17, zy18, zy19, zy20, Nat.reduceLT, Nat.reduceLeDiff, zy21, zy22, zy23, zy24, zy25, zy26, Int.reduceAdd, Int.reduceMul, Int.reduceSub, Int.reduceNeg, Int.reduceDiv, Int.reduceMod, zy27, growB_ok hE]
  refine go_once ?_
  simp (maxSteps := 10000000) (disch := first | assumption | omega | (simp only [zy19, zy17, zy18, zy34, zy35, zy36, zy11, zy12, rsL] <;> omega) | with_reducible exact rowOK_nil _ _ | ((repeat' apply rowOK_put) <;> first | assumption | exact rowP_ok _ _ _ _ _ | omega) | (simp only [rsI]; done)) only [↓rsW, ↓rsd, rsu, rsX, zyB, Int.reduceEq, ↓reduceIte, zy0, zy1, zy2, zy3, zy4, zy5, zy6, zy7, zy8, zy9, zy10, zy11, zy12, zy13, zy14, zy15, zy16, Nat.reduceEqDiff, Nat.reduceBEq, Nat.reduceAdd, Nat.reduceMul, Nat.reduceSub, Int.reduceToNat, zy17, zy18, zy19, zy20, Nat.reduceLT, Nat.reduceLeDiff, zy21, zy22, zy23, zy24, zy25, zy26, Int.reduceAdd, Int.reduceMul, Int.reduceSub, Int.reduceNeg, Int.reduceDiv, Int.reduceMod, zy27]
  refine go_once ?_
  simp (maxSteps := 10000000) (disch := first | assumption | omega | (simp only [zy19, zy17, zy18, zy34, zy35, zy36, zy11, zy12, rsL] <;> omega) | with_reducible exact rowOK_nil _ _ | ((repeat' apply rowOK_put) <;> first | assumption | exact rowP_ok _ _ _ _ _ | omega) | (simp only [rsI]; done)) only [↓rsW, ↓rsd, rsu, rsX, zyB, Int.reduceEq, ↓reduceIte, zy0, zy1, zy2, zy3, zy4, zy5, zy6, zy7, zy8, zy9, zy10, zy11, zy12, zy13, zy14, zy15, zy16, Nat.reduceEqDiff, Nat.reduceBEq, Nat.reduceAdd, Nat.reduceMul, Nat.reduceSub, Int.reduceToNat, zy17, zy18, zy19, zy20, Nat.reduceLT, Nat.reduceLeDiff, zy21, zy22, zy23, zy24, zy25, zy26, Int.reduceAdd, Int.reduceMul, Int.reduceSub, Int.reduceNeg, Int.reduceDiv, Int.reduceMod, zy27]
  refine go_once ?_
  simp (maxSteps := 10000000) (disch := first | assumption | omega | (simp only [zy19, zy17, zy18, zy34, zy35, zy36, zy11, zy12, rsL] <;> omega) | with_reducible exact rowOK_nil _ _ | ((repeat' apply rowOK_put) <;> first | assumption | exact rowP_ok _ _ _ _ _ | omega) | (simp only [rsI]; done)) only [↓rsW, ↓rsd, rsu, rsX, zyB, Int.reduceEq, ↓reduceIte, zy0, zy1, zy2, zy3, zy4, zy5, zy6, zy7, zy8, zy9, zy10, zy11, zy12, zy13, zy14, zy15, zy16, Nat.reduceEqDiff, Nat.reduceBEq, Nat.reduceAdd, Nat.reduceMul, Nat.reduceSub, Int.reduceToNat, zy17, zy18, zy19, zy20, Nat.reduceLT, Nat.reduceLeDiff, zy21, zy22, zy23, zy24, zy25, zy26, Int.reduceAdd, Int.reduceMul, Int.reduceSub, Int.reduceNeg, Int.reduceDiv, Int.reduceMod, zy27]
  refine go_once ?_
  simp (maxSteps := 10000000) (disch := first | assumption | omega | (simp only [zy19, zy17, zy18, zy34, zy35, zy36, zy11, zy12, rsL] <;> omega) | with_reducible exact rowOK_nil _ _ | ((repeat' apply rowOK_put) <;> first | assumption | exact rowP_ok _ _ _ _ _ | omega) | (simp only [rsI]; done)) only [↓rsW, ↓rsd, rsu, rsX, zyB, Int.reduceEq, ↓reduceIte, zy0, zy1, zy2, zy3, zy4, zy5, zy6, zy7, zy8, zy9, zy10, zy11, zy12, zy13, zy14, zy15, zy16, Nat.reduceEqDiff, Nat.reduceBEq, Nat.reduceAdd, Nat.reduceMul, Nat.reduceSub, Int.reduceToNat, zy17, zy18, zy19, zy20, Nat.reduceLT, Nat.reduceLeDiff, zy21, zy22, zy23, zy24, zy25, zy26, Int.reduceAdd, Int.reduceMul, Int.reduceSub, Int.reduceNeg, Int.reduceDiv, Int.reduceMod, zy27]
mutual
/-- The bytes of a value. -/
def encV : Val → List UInt8
  | .mk k n ks => intB k ++ intB n ++ intB ks.length ++ encVs ks
def encVs : List Val → List UInt8
  | [] => []
  | a :: l => encV a ++ encVs l
end
theorem encV_eq (v : Val) : encV v = intB v.kind ++ intB v.n ++ intB v.kids.length ++ encVs v.kids := by cases v; simp only [encV, Val.kind_mk, Val.n_mk, Val.kids_mk]
theorem encVs_nil : encVs [] = [] := by simp only [encVs]
theorem encVs_cons (a : Val) (l : List Val) : encVs (a :: l) = encV a ++ encVs l := by simp only [encVs]
theorem encVs_take (l : List Val) (k : Nat) (h : k < l.length) : encVs (l.take (k + 1)) = encVs (l.take k) ++ encV (l.getD k Val.z) := by
  induction l generalizing k with
  | nil => simp at h
  | cons a l ih =>
    cases k with
    | zero => simp [encVs_cons, encVs_nil]
    | succ k => simp only [List.take_succ_cons, encVs_cons, List.getD_cons_succ]; rw [ih k (by simpa using h), List.append_assoc]
theorem encV_len : ∀ v : Val, (encV v).length ≤ 27 * szV v := by
  refine Val.ind ?_
  intro v ih
  have key : ∀ ks : List Val, (∀ x ∈ ks, x ∈ v.kids) → (encVs ks).length ≤ 27 * szVs ks := by
    intro ks
    induction ks with
    | nil => intro _; rw [encVs_nil, szVs_nil]; simp
    | cons a r ihr =>
      intro hm
      have h1 := ih a (hm a (by simp))
      have h2 := ihr fun x hx => hm x (by simp [hx])
      rw [encVs_cons, szVs_cons, List.length_append]; omega
  rw [encV_eq, szV_eq]
  simp only [List.length_append]
  have h1 := intB_lt v.kind
  have h2 := intB_lt v.n
  have h3 := intB_lt v.kids.length
  have h4 := key v.kids fun _ h => h
  omega
theorem szVs_le {ks : List Val} {x : Val} (h : x ∈ ks) : szV x ≤ szVs ks := by
  induction ks with
  | nil => cases h
  | cons a r ih =>
    rw [szVs_cons]
    cases h with
    | head => omega
    | tail _ h => have := ih h; omega
theorem szVs_takele (ks : List Val) (k : Nat) : szVs (ks.take k) ≤ szVs ks := by
  induction ks generalizing k with
  | nil => simp [szVs_nil]
  | cons a r ih => cases k with
    | zero => simp [szVs_nil]
    | succ k => simp only [List.take_succ_cons, szVs_cons]; have := ih k; omega
theorem encVs_len (ks : List Val) : (encVs ks).length ≤ 27 * szVs ks := by
  induction ks with
  | nil => rw [encVs_nil, szVs_nil]; simp
  | cons a r ih => have := encV_len a; rw [encVs_cons, szVs_cons, List.length_append]; omega
theorem intB_pos (n : Int) : 0 < (intB n).length := by rw [intB_len]; omega
theorem encode_ok (hE : XOK E) : ∀ v : Val, okV' v → rgV v → szV v ≤ 100000000 → valP (cfW G T E) 57 [.agg v.row] = some (.ret (.own 1 (bytesV (encV v)))) := by
  refine Val.ind ?_
  intro v ih hv hr hs
  rw [okV_kids] at hv
  rw [rgV_eq] at hr
  rw [szV_eq] at hs
  have hg : ∀ x ∈ v.kids, valP (cfW G T E) 57 [.agg x.row] = some (.ret (.own 1 (bytesV (encV x)))) := fun x hx => ih x hx (hv.2 x hx) (hr.2.2 x hx) (by have := szVs_le hx; omega)
  have l1 := intB_lt v.kind
  have l2 := intB_lt v.n
  have l3 := intB_lt v.kids.length
  have l4 := intB_pos v.kind
  have hr1 := hr.1
  have hr2 := hr.2.1
  have hA : ((intB v.kind ++ intB v.n ++ intB v.kids.length).length) = (intB v.kind).length + (intB v.n).length + (intB v.kids.length).length := by simp [Nat.add_assoc]
  refine xrun 6 (m := m57) hE rfl rfl rfl rfl ?_
  simp (maxSteps := 10000000) (disch := first | assumption | omega | (simp only [zy19, zy17, zy18, zy34, zy35, zy36, zy11, zy12, rsL] <;> omega) | with_reducible exact rowOK_nil _ _ | ((repeat' apply rowOK_put) <;> first | assumption | exact rowP_ok _ _ _ _ _ | omega) | (simp only [rsI]; done)) only [↓rsW, ↓rsd, rsu, rsX, zyB, Int.reduceEq, ↓reduceIte, zy0, zy1, zy2, zy3, zy4, zy5, zy6, zy7, zy8, zy9, zy10, zy11, zy12, zy13, zy14, zy15, zy16, Nat.reduceEqDiff, Nat.reduceBEq, Nat.reduceAdd, Nat.reduceMul, Nat.reduceSub, Int.reduceToNat, zy17, zy18, zy19, zy20, Nat.reduceLT, Nat.reduceLeDiff, zy21, zy22, zy23, zy24, zy25, zy26, Int.reduceAdd, Int.reduceMul, Int.reduceSub, Int.reduceNeg, Int.reduceDiv, Int.reduceMod, zy27, m57, xwint_ok hE, concat3_ok hE]
  generalize hAd : intB v.kind ++ intB v.n ++ intB v.kids.length = A at hA ⊢
  refine go_loop2 6 (fun n s => ∃ (q j : Nat), n = v.kids.length - q ∧ q ≤ v.kids.length ∧ j < s.N ∧ s.e 3 = .vsl j 0 (A ++ encVs (v.kids.take q)).length ∧ s.e 19 = .sl 3 (Val.rows v.kids) ∧ s.e 20 = .int .i64 v.kids.length ∧ s.e 21 = .int .i64 q ∧ s.o j = .vec 1 (bytesV (A ++ encVs (v.kids.take q)))) v.kids.length ?_ ?_
  · refine ⟨0, 1, rfl, by omega, Nat.lt_succ_self 1, ?_⟩
    rw [List.take_zero, encVs_nil, List.append_nil]
    simp (maxSteps := 10000000) (disch := first | assumption | omega | (simp only [zy19, zy17, zy18, zy34, zy35, zy36, zy11, zy12, rsL] <;> omega) | with_reducible exact rowOK_nil _ _ | ((repeat' apply rowOK_put) <;> first | assumption | exact rowP_ok _ _ _ _ _ | omega) | (simp only [rsI]; done)) only [↓rsW, ↓rsd, rsu, rsX, zyB, Int.reduceEq, ↓reduceIte, zy0, zy1, zy2, zy3, zy4, zy5, zy6, zy7, zy8, zy9, zy10, zy11, zy12, zy13, zy14, zy15, zy16, Nat.reduceEqDiff, Nat.reduceBEq, Nat.reduceAdd, Nat.reduceMul, Nat.reduceSub, Int.reduceToNat, zy17, zy18, zy19, zy20, Nat.reduceLT, Nat.reduceLeDiff, zy21, zy22, zy23, zy24, zy25, zy26, Int.reduceAdd, Int.reduceMul, Int.reduceSub, Int.reduceNeg, Int.reduceDiv, Int.reduceMod, zy27]
    first | rfl | exact ⟨rfl, rfl⟩ | exact ⟨rfl, rfl, rfl⟩ | exact ⟨rfl, rfl, rfl, rfl⟩ | exact ⟨rfl, rfl, rfl, rfl, rfl⟩ | exact ⟨rfl, rfl, rfl, rfl, rfl, rfl⟩
  · rintro n e o N ⟨q, j, hn, hq, hN, e3, e19, e20, e21, oj⟩
    simp only at hN e3 e19 e20 e21 oj
    by_cases hlt : q < v.kids.length
    · have hx := getD_mem v.kids q Val.z hlt
      have hc := hg _ hx
      have g1 := encV_len (v.kids.getD q Val.z)
      have g2 := szVs_le hx
      have g3 := encVs_len (v.kids.take q)
      have g4 := szVs_takele v.kids q
      have hlen : (A ++ encVs (v.kids.take q)).length = A.length + (encVs (v.kids.take q)).length := List.length_append
      simp (maxSteps := 10000000) (disch := first | assumption | omega | (simp only [zy19, zy17, zy18, zy34, zy35, zy36, zy11, zy12, rsL] <;> omega) | with_reducible exact rowOK_nil _ _ | ((repeat' apply rowOK_put) <;> first | assumption | exact rowP_ok _ _ _ _ _ | omega) | (simp only [rsI]; done)) only [↓rsW, ↓rsd, rsu, rsX, zyB, Int.reduceEq, ↓reduceIte, zy0, zy1, zy2, zy3, zy4, zy5, zy6, zy7, zy8, zy9, zy10, zy11, zy12, zy13, zy14, zy15, zy16, Nat.reduceEqDiff, Nat.reduceBEq, Nat.reduceAdd, Nat.reduceMul, Nat.reduceSub, Int.reduceToNat, zy17, zy18, zy19, zy20, Nat.reduceLT, Nat.reduceLeDiff, zy21, zy22, zy23, zy24, zy25, zy26, Int.reduceAdd, Int.reduceMul, Int.reduceSub, Int.reduceNeg, Int.reduceDiv, Int.reduceMod, zy27, e3, e19, e20, e21, oj, hc]
      refine ⟨_, by omega, q + 1, N + 1, rfl, by omega, by omega, ?_, rfl, ?_⟩
      · rw [encVs_take _ _ hlt]; simp only [List.length_append, Nat.add_assoc]
      · rw [encVs_take _ _ hlt]; simp only [List.append_assoc]; try rfl
    · have hq' : q = v.kids.length := by omega
      subst hq'
      rw [List.take_length] at e3 oj
      simp (maxSteps := 10000000) (disch := first | assumption | omega | (simp only [zy19, zy17, zy18, zy34, zy35, zy36, zy11, zy12, rsL] <;> omega) | with_reducible exact rowOK_nil _ _ | ((repeat' apply rowOK_put) <;> first | assumption | exact rowP_ok _ _ _ _ _ | omega) | (simp only [rsI]; done)) only [↓rsW, ↓rsd, rsu, rsX, zyB, Int.reduceEq, ↓reduceIte, zy0, zy1, zy2, zy3, zy4, zy5, zy6, zy7, zy8, zy9, zy10, zy11, zy12, zy13, zy14, zy15, zy16, Nat.reduceEqDiff, Nat.reduceBEq, Nat.reduceAdd, Nat.reduceMul, Nat.reduceSub, Int.reduceToNat, zy17, zy18, zy19, zy20, Nat.reduceLT, Nat.reduceLeDiff, zy21, zy22, zy23, zy24, zy25, zy26, Int.reduceAdd, Int.reduceMul, Int.reduceSub, Int.reduceNeg, Int.reduceDiv, Int.reduceMod, zy27, e3, e19, e20, e21, oj]
      rw [encV_eq, hAd]
end Go.Proofs.Ytoccgkgdhobmfaa.Am.Ru
set_option maxRecDepth 100000
set_option linter.unusedSimpArgs false
set_option linter.unusedVariables false
namespace Go.Proofs.Ytoccgkgdhobmfaa.Am.Ru
open Go
variable {G : Nat → Option (List V)} {E : Nat → Option (CallFn → List V → Hp → Nat → Option Out)}
/-- Bytes as a number, each combined. -/
def dgs (f : Nat) : List UInt8 → Nat → Nat
  | [], m => m
  | c :: l, m => dgs f l (m * 256 + xor8 c.toNat f)
theorem dgs_snoc (f : Nat) : ∀ (l : List UInt8) (c : UInt8) (m : Nat), dgs f (l ++ [c]) m = dgs f l m * 256 + xor8 c.toNat f
  | [], c, m => rfl
  | a :: l, c, m => by simp only [List.cons_append, dgs, dgs_snoc f l c]
theorem dgs_lt (f : Nat) : ∀ (l : List UInt8), dgs f l 0 < 256 ^ l.length := by
  intro l
  have key : ∀ (l : List UInt8) (m e : Nat), m < 256 ^ e → dgs f l m < 256 ^ (e + l.length) := by
    intro l
    induction l with
    | nil => intro m e h; exact h
    | cons c l ih =>
      intro m e h
      have hx := xor8_lt c.toNat f
      have := ih (m * 256 + xor8 c.toNat f) (e + 1) (by rw [Nat.pow_succ]; omega)
      rw [List.length_cons, show e + (l.length + 1) = e + 1 + l.length by omega]
      exact this
  have := key l 0 0 (by simp)
  rwa [Nat.zero_add] at this
theorem take_snoc {α : Type} (l : List α) (k : Nat) (z : α) (h : k < l.length) : l.take (k + 1) = l.take k ++ [l.getD k z] := by
  rw [List.take_succ_eq_append_getElem h, List.getD_eq_getElem?_getD, List.getElem?_eq_getElem h]; rfl
theorem dgs_take (f : Nat) (l : List UInt8) (k : Nat) (h : k < l.length) : dgs f (l.take (k + 1)) 0 = dgs f (l.take k) 0 * 256 + xor8 (l.getD k 0).toNat f := by
  rw [take_snoc l k 0 h, dgs_snoc]
/-- How the first byte is combined, and how many bytes it speaks of. -/
def hdF (h : Nat) : Nat := if h < 128 then 255 else 0
def hdK (h : Nat) : Nat := if h < 128 then 127 - h else h - 128
/-- The number at the beginning: the number, its length, the error. -/
def getI (b : List UInt8) : Int × Int × Int :=
  if b.length = 0 then (0, 0, 3)
  else if 8 < hdK (b.getD 0 0).toNat then (0, 0, 2)
  else if b.length ≤ hdK (b.getD 0 0).toNat then (0, 0, 3)
  else if 0 < hdK (b.getD 0 0).toNat ∧ xor8 (b.getD 1 0).toNat (hdF (b.getD 0 0).toNat) = 0 then (0, 0, 2)
  else if 9223372036854775808 ≤ dgs (hdF (b.getD 0 0).toNat) ((b.drop 1).take (hdK (b.getD 0 0).toNat)) 0 then (0, 0, 2)
  else (if (b.getD 0 0).toNat < 128 then -1 - (dgs (hdF (b.getD 0 0).toNat) ((b.drop 1).take (hdK (b.getD 0 0).toNat)) 0 : Int) else (dgs (hdF (b.getD 0 0).toNat) ((b.drop 1).take (hdK (b.getD 0 0).toNat)) 0 : Int), (hdK (b.getD 0 0).toNat : Int) + 1, 0)
theorem or_shl8 (m x : Nat) (hm : m < 72057594037927936) (hx : x < 256) : or64u (shl64u m 8) x = m * 256 + x := by
  have h1 : shl64u m 8 = m * 256 := by unfold shl64u; rw [Nat.shiftLeft_eq]; omega
  rw [h1]
  unfold or64u
  have h2 : m * 256 ||| x = m * 256 + x := by
    have := Nat.two_pow_add_eq_or_of_lt (i := 8) (b := x) (by omega) m
    rw [show (2 : Nat) ^ 8 = 256 from rfl, Nat.mul_comm] at this
    exact this.symm
  rw [h2]; omega
theorem hdF_xor (h : Nat) (hh : h < 256) : (xor8 h (hdF h) : Int) - 128 = (hdK h : Nat) := by
  unfold hdF hdK
  by_cases h1 : h < 128
  · rw [if_pos h1, if_pos h1, xor8_255 _ (by omega)]; omega
  · rw [if_neg h1, if_neg h1, xor8_0 _ (by omega)]; omega
theorem shr63 (m : Nat) (hm : m < 18446744073709551616) : shr64u m 63 = if 9223372036854775808 ≤ m then 1 else 0 := by
  unfold shr64u
  rw [Nat.shiftRight_eq_div_pow]
  split <;> omega
theorem pow56 (i : Nat) (h : i ≤ 7) : 256 ^ i ≤ 72057594037927936 := by
  have : 256 ^ i ≤ 256 ^ 7 := Nat.pow_le_pow_right (by omega) h
  exact Nat.le_trans this (by decide)
theorem pow64 (i : Nat) (h : i ≤ 8) : 256 ^ i ≤ 18446744073709551616 := by
  have : 256 ^ i ≤ 256 ^ 8 := Nat.pow_le_pow_right (by omega) h
  exact Nat.le_trans this (by decide)
set_option maxHeartbeats 2000000 in
theorem getInt_ok (hE : XOK E) (b : List UInt8) (hb : b.length < 9223372036854775808) : valP (cfW G T E) 105 [.sl 1 (bytesV b)] = some (.ret (.tup [.int .i64 (getI b).1, .int .i64 (getI b).2.1, .int .i64 (getI b).2.2])) := by
  refine xrun 10 (m := m105) hE rfl rfl rfl rfl ?_
  unfold getI
  by_cases c0 : b.length = 0
  · rw [if_pos c0]
    simp (maxSteps := 10000000) (disch := first | assumption | omega | (simp only [zy19, zy17, zy18, zy34, zy35, zy36, zy11, zy12, rsL] <;> omega) | with_reducible exact rowOK_nil _ _ | ((repeat' apply rowOK_put) <;> first | assumption | exact rowP_ok _ _ _ _ _ | omega) | (simp only [rsI]; done)) only [↓rsW, ↓rsd, rsu, rsX, zyB, Int.reduceEq, ↓reduceIte, zy0, zy1, zy2, zy3, zy4, zy5, zy6, zy7, zy8, zy9, zy10, zy11, zy12, zy13, zy14, zy15, zy16, Nat.reduceEqDiff, Nat.reduceBEq, Nat.reduceAdd, Nat.reduceMul, Nat.reduceSub, Int.reduceToNat, zy17, zy18, zy19, zy20, Nat.reduceLT, Nat.reduceLeDiff, zy21, zy22, zy23, zy24, zy25, zy26, Int.reduceAdd, Int.reduceMul, Int.reduceSub, Int.reduceNeg, Int.reduceDiv, Int.reduceMod, zy27, m105, c0]
  · rw [if_neg c0]
    have h0 := toNat_lt8 (b.getD 0 0)
    have h1 := toNat_lt8 (b.getD 1 0)
    have hx := hdF_xor (b.getD 0 0).toNat h0
    have hx8 := xor8_lt (b.getD 0 0).toNat (hdF (b.getD 0 0).toNat)
    have hF : hdF (b.getD 0 0).toNat = if (b.getD 0 0).toNat < 128 then 255 else 0 := rfl
    generalize hf : hdF (b.getD 0 0).toNat = f at hx hx8 hF ⊢
    generalize hk : hdK (b.getD 0 0).toNat = k at hx ⊢
    generalize hh : (b.getD 0 0).toNat = h at h0 hx hx8 hF ⊢
    have hfb : f < 256 := by rw [hF]; split <;> omega
    have hwr := wrap_i64n (a := xor8 h f) (by omega)
    by_cases hneg : h < 128
    case' pos =>
      have hf255 : f = 255 := by rw [hF, if_pos hneg]
      have hfl : ((255 : Nat) : Int) = (f : Nat) := by rw [hf255]
      rw [if_pos hneg]
      simp (maxSteps := 10000000) (disch := first | assumption | omega | (simp only [zy19, zy17, zy18, zy34, zy35, zy36, zy11, zy12, rsL] <;> omega) | with_reducible exact rowOK_nil _ _ | ((repeat' apply rowOK_put) <;> first | assumption | exact rowP_ok _ _ _ _ _ | omega) | (simp only [rsI]; done)) only [↓rsW, ↓rsd, rsu, rsX, zyB, Int.reduceEq, ↓reduceIte, zy0, zy1, zy2, zy3, zy4, zy5, zy6, zy7, zy8, zy9, zy10, zy11, zy12, zy13, zy14, zy15, zy16, Nat.reduceEqDiff, Nat.reduceBEq, Nat.reduceAdd, Nat.reduceMul, Nat.reduceSub, Int.reduceToNat, zy17, zy18, zy19, zy20, Nat.reduceLT, Nat.reduceLeDiff, zy21, zy22, zy23, zy24, zy25, zy26, Int.reduceAdd, Int.reduceMul, Int.reduceSub, Int.reduceNeg, Int.reduceDiv, Int.reduceMod, zy27, m105, hh, hfl, hwr, hx]
    case' neg =>
      have hf0 : f = 0 := by rw [hF, if_neg hneg]
      have hfl : ((0 : Nat) : Int) = (f : Nat) := by rw [hf0]
      rw [if_neg hneg]
      simp (maxSteps := 10000000) (disch := first | assumption | omega | (simp only [zy19, zy17, zy18, zy34, zy35, zy36, zy11, zy12, rsL] <;> omega) | with_reducible exact rowOK_nil _ _ | ((repeat' apply rowOK_put) <;> first | assumption | exact rowP_ok _ _ _ _ _ | omega) | (simp only [rsI]; done)) only [↓rsW, ↓rsd, rsu, rsX, zyB, Int.reduceEq, ↓reduceIte, zy0, zy1, zy2, zy3, zy4, zy5, zy6, zy7, zy8, zy9, zy10, zy11, zy12, zy13, zy14, zy15, zy16, Nat.reduceEqDiff, Nat.reduceBEq, Nat.reduceAdd, Nat.reduceMul, Nat.reduceSub, Int.reduceToNat, zy17, zy18, zy19, zy20, Nat.reduceLT, Nat.reduceLeDiff, zy21, zy22, zy23, zy24, zy25, zy26, Int.reduceAdd, Int.reduceMul, Int.reduceSub, Int.reduceNeg, Int.reduceDiv, Int.reduceMod, zy27, m105, hh, hfl, hwr, hx]
    all_goals
      by_cases k8 : 8 < k
      · rw [if_pos k8]
        simp (maxSteps := 10000000) (disch := first | assumption | omega | (simp only [zy19, zy17, zy18, zy34, zy35, zy36, zy11, zy12, rsL] <;> omega) | with_reducible exact rowOK_nil _ _ | ((repeat' apply rowOK_put) <;> first | assumption | exact rowP_ok _ _ _ _ _ | omega) | (simp only [rsI]; done)) only [↓rsW, ↓rsd, rsu, rsX, zyB, Int.reduceEq, ↓reduceIte, zy0, zy1, zy2, zy3, zy4, zy5, zy6, zy7, zy8, zy9, zy10, zy11, zy12, zy13, zy14, zy15, zy16, Nat.reduceEqDiff, Nat.reduceBEq, Nat.reduceAdd, Nat.reduceMul, Nat.reduceSub, Int.reduceToNat, zy17, zy18, zy19, zy20, Nat.reduceLT, Nat.reduceLeDiff, zy21, zy22, zy23, zy24, zy25, zy26, Int.reduceAdd, Int.reduceMul, Int.reduceSub, Int.reduceNeg, Int.reduceDiv, Int.reduceMod, zy27]
      · rw [if_neg k8]
        by_cases kl : b.length ≤ k
        · rw [if_pos kl]
          simp (maxSteps := 10000000) (disch := first | assumption | omega | (simp only [zy19, zy17, zy18, zy34, zy35, zy36, zy11, zy12, rsL] <;> omega) | with_reducible exact rowOK_nil _ _ | ((repeat' apply rowOK_put) <;> first | assumption | exact rowP_ok _ _ _ _ _ | omega) | (simp only [rsI]; done)) only [↓rsW, ↓rsd, rsu, rsX, zyB, Int.reduceEq, ↓reduceIte, zy0, zy1, zy2, zy3, zy4, zy5, zy6, zy7, zy8, zy9, zy10, zy11, zy12, zy13, zy14, zy15, zy16, Nat.reduceEqDiff, Nat.reduceBEq, Nat.reduceAdd, Nat.reduceMul, Nat.reduceSub, Int.reduceToNat, zy17, zy18, zy19, zy20, Nat.reduceLT, Nat.reduceLeDiff, zy21, zy22, zy23, zy24, zy25, zy26, Int.reduceAdd, Int.reduceMul, Int.reduceSub, Int.reduceNeg, Int.reduceDiv, Int.reduceMod, zy27]
        · rw [if_neg kl]
          by_cases kz : 0 < k ∧ xor8 (b.getD 1 0).toNat f = 0
          · rw [if_pos kz]
            have kz1 := kz.1
            have kz2 := kz.2
            have hb1 : 1 < b.length := by omega
            simp (maxSteps := 10000000) (disch := first | assumption | omega | (simp only [zy19, zy17, zy18, zy34, zy35, zy36, zy11, zy12, rsL] <;> omega) | with_reducible exact rowOK_nil _ _ | ((repeat' apply rowOK_put) <;> first | assumption | exact rowP_ok _ _ _ _ _ | omega) | (simp only [rsI]; done)) only [↓rsW, ↓rsd, rsu, rsX, zyB, Int.reduceEq, ↓reduceIte, zy0, zy1, zy2, zy3, zy4, zy5, zy6, zy7, zy8, zy9, zy10, zy11, zy12, zy13, zy14, zy15, zy16, Nat.reduceEqDiff, Nat.reduceBEq, Nat.reduceAdd, Nat.reduceMul, Nat.reduceSub, Int.reduceToNat, zy17, zy18, zy19, zy20, Nat.reduceLT, Nat.reduceLeDiff, zy21, zy22, zy23, zy24, zy25, zy26, Int.reduceAdd, Int.reduceMul, Int.reduceSub, Int.reduceNeg, Int.reduceDiv, Int.reduceMod, zy27, kz2]
          · rw [if_neg kz]
            have hl9 : ((b.drop 1).take k).length = k := by rw [List.length_take, List.length_drop]; omega
            have hd := dgs_lt f ((b.drop 1).take k)
            rw [hl9] at hd
            have hd64 := pow64 k (by omega)
            have hstep : ∀ i, i < k → dgs f (((b.drop 1).take k).take (i + 1)) 0 = dgs f (((b.drop 1).take k).take i) 0 * 256 + xor8 (((b.drop 1).take k).getD i 0).toNat f := fun i hi => dgs_take f _ i (by omega)
            have hlt : ∀ i, i < k → dgs f (((b.drop 1).take k).take i) 0 < 72057594037927936 := fun i hi => by
              have h2 := dgs_lt f (((b.drop 1).take k).take i)
              rw [List.length_take, hl9, show min i k = i by omega] at h2
              have := pow56 i (by omega)
              omega
            have hall : ((b.drop 1).take k).take k = (b.drop 1).take k := List.take_of_length_le (by omega)
            have hsl : (b.drop 1).take (k + 1 - 1) = (b.drop 1).take k := rfl
            have hk1 : k + 1 - 1 = k := rfl
            have hkz : ¬ (0 < k) ∨ (0 < k ∧ 0 < xor8 (b.getD 1 0).toNat f ∧ 1 < b.length) := by omega
            generalize hds : (b.drop 1).take k = ds at hl9 hd hstep hlt hall
            rcases hkz with hkz | ⟨hkz, hkz1, hkz2⟩
            all_goals
              simp (maxSteps := 10000000) (disch := first | assumption | omega | (simp only [zy19, zy17, zy18, zy34, zy35, zy36, zy11, zy12, rsL] <;> omega) | with_reducible exact rowOK_nil _ _ | ((repeat' apply rowOK_put) <;> first | assumption | exact rowP_ok _ _ _ _ _ | omega) | (simp only [rsI]; done)) only [↓rsW, ↓rsd, rsu, rsX, zyB, Int.reduceEq, ↓reduceIte, zy0, zy1, zy2, zy3, zy4, zy5, zy6, zy7, zy8, zy9, zy10, zy11, zy12, zy13, zy14, zy15, zy16, Nat.reduceEqDiff, Nat.reduceBEq, Nat.reduceAdd, Nat.reduceMul, Nat.reduceSub, Int.reduceToNat, zy17, zy18, zy19, zy20, Nat.reduceLT, Nat.reduceLeDiff, zy21, zy22, zy23, zy24, zy25, zy26, Int.reduceAdd, Int.reduceMul, Int.reduceSub, Int.reduceNeg, Int.reduceDiv, Int.reduceMod, zy27, hk1, hds]
              refine go_loop2 10 (fun n s => ∃ i : Nat, n = k - i ∧ i ≤ k ∧ s.e 5 = .int .u8 (f : Nat) ∧ s.e 6 = .int .i64 (k : Nat) ∧ s.e 7 = .int .u64 (dgs f (ds.take i) 0 : Nat) ∧ s.e 46 = .sl 1 (bytesV ds) ∧ s.e 47 = .int .i64 (k : Nat) ∧ s.e 48 = .int .i64 (i : Nat)) k ?_ ?_
              · refine ⟨0, rfl, by omega, ?_⟩
                rw [List.take_zero]
                simp (maxSteps := 10000000) (disch := first | assumption | omega | (simp only [zy19, zy17, zy18, zy34, zy35, zy36, zy11, zy12, rsL] <;> omega) | with_reducible exact rowOK_nil _ _ | ((repeat' apply rowOK_put) <;> first | assumption | exact rowP_ok _ _ _ _ _ | omega) | (simp only [rsI]; done)) only [↓rsW, ↓rsd, rsu, rsX, zyB, Int.reduceEq, ↓reduceIte, zy0, zy1, zy2, zy3, zy4, zy5, zy6, zy7, zy8, zy9, zy10, zy11, zy12, zy13, zy14, zy15, zy16, Nat.reduceEqDiff, Nat.reduceBEq, Nat.reduceAdd, Nat.reduceMul, Nat.reduceSub, Int.reduceToNat, zy17, zy18, zy19, zy20, Nat.reduceLT, Nat.reduceLeDiff, zy21, zy22, zy23, zy24, zy25, zy26, Int.reduceAdd, Int.reduceMul, Int.reduceSub, Int.reduceNeg, Int.reduceDiv, Int.reduceMod, zy27, hl9, hk1, hds]
                first
                | first | rfl | exact ⟨rfl, rfl⟩ | exact ⟨rfl, rfl, rfl⟩ | exact ⟨rfl, rfl, rfl, rfl⟩ | exact ⟨rfl, rfl, rfl, rfl, rfl⟩ | exact ⟨rfl, rfl, rfl, rfl, rfl, rfl⟩
                | (simp only [dgs, hf0]; done)
                | (simp only [dgs, hf0]; simp)
                | simp [dgs, hf0]
              · rintro n e o N ⟨i, hn, hi, e5, e6, e7, e46, e47, e48⟩
                simp only at e5 e6 e7 e46 e47 e48
                by_cases hik : i < k
                · first
                  | (exfalso; omega)
                  | (
                      have hx2 := xor8_lt (ds.getD i 0).toNat f
                      have hm := hlt i hik
                      have hw : xor8 (ds.getD i 0).toNat f % 18446744073709551616 = xor8 (ds.getD i 0).toNat f := by omega
                      have hor := or_shl8 _ _ hm hx2
                      have hil : i < ds.length := by omega
                      simp (maxSteps := 10000000) (disch := first | assumption | omega | (simp only [zy19, zy17, zy18, zy34, zy35, zy36, zy11, zy12, rsL] <;> omega) | with_reducible exact rowOK_nil _ _ | ((repeat' apply rowOK_put) <;> first | assumption | exact rowP_ok _ _ _ _ _ | omega) | (simp only [rsI]; done)) only [↓rsW, ↓rsd, rsu, rsX, zyB, Int.reduceEq, ↓reduceIte, zy0, zy1, zy2, zy3, zy4, zy5, zy6, zy7, zy8, zy9, zy10, zy11, zy12, zy13, zy14, zy15, zy16, Nat.reduceEqDiff, Nat.reduceBEq, Nat.reduceAdd, Nat.reduceMul, Nat.reduceSub, Int.reduceToNat, zy17, zy18, zy19, zy20, Nat.reduceLT, Nat.reduceLeDiff, zy21, zy22, zy23, zy24, zy25, zy26, Int.reduceAdd, Int.reduceMul, Int.reduceSub, Int.reduceNeg, Int.reduceDiv, Int.reduceMod, zy27, e5, e6, e7, e46, e47, e48, hw, hor]
                      refine ⟨_, by omega, i + 1, rfl, by omega, ?_, rfl⟩
                      rw [hstep i hik]
                    )
                · have hi' : i = k := by omega
                  subst hi'
                  rw [hall] at e7
                  have h63 := shr63 (dgs f ds 0) (by omega)
                  by_cases hbig : 9223372036854775808 ≤ dgs f ds 0
                  · rw [if_pos hbig] at h63 ⊢
                    simp (maxSteps := 10000000) (disch := first | assumption | omega | (simp only [zy19, zy17, zy18, zy34, zy35, zy36, zy11, zy12, rsL] <;> omega) | with_reducible exact rowOK_nil _ _ | ((repeat' apply rowOK_put) <;> first | assumption | exact rowP_ok _ _ _ _ _ | omega) | (simp only [rsI]; done)) only [↓rsW, ↓rsd, rsu, rsX, zyB, Int.reduceEq, ↓reduceIte, zy0, zy1, zy2, zy3, zy4, zy5, zy6, zy7, zy8, zy9, zy10, zy11, zy12, zy13, zy14, zy15, zy16, Nat.reduceEqDiff, Nat.reduceBEq, Nat.reduceAdd, Nat.reduceMul, Nat.reduceSub, Int.reduceToNat, zy17, zy18, zy19, zy20, Nat.reduceLT, Nat.reduceLeDiff, zy21, zy22, zy23, zy24, zy25, zy26, Int.reduceAdd, Int.reduceMul, Int.reduceSub, Int.reduceNeg, Int.reduceDiv, Int.reduceMod, zy27, e5, e6, e7, e46, e47, e48, h63]
                  · rw [if_neg hbig] at h63 ⊢
                    have hm63 : dgs f ds 0 < 9223372036854775808 := by omega
                    have hn64 := not64_eq (dgs f ds 0) (by omega)
                    have hwn : IntKind.i64.wrap ((18446744073709551615 - dgs f ds 0 : Nat) : Int) = -1 - (dgs f ds 0 : Int) := by rw [IntKind.wrap_i64]; omega
                    have hwp := wrap_i64n (a := dgs f ds 0) hm63
                    first
                    | (have hf2 : (0 : Nat) < f := by omega
                       simp (maxSteps := 10000000) (disch := first | assumption | omega | (simp only [zy19, zy17, zy18, zy34, zy35, zy36, zy11, zy12, rsL] <;> omega) | with_reducible exact rowOK_nil _ _ | ((repeat' apply rowOK_put) <;> first | assumption | exact rowP_ok _ _ _ _ _ | omega) | (simp only [rsI]; done)) only [↓rsW, ↓rsd, rsu, rsX, zyB, Int.reduceEq, ↓reduceIte, zy0, zy1, zy2, zy3, zy4, zy5, zy6, zy7, zy8, zy9, zy10, zy11, zy12, zy13, zy14, zy15, zy16, Nat.reduceEqDiff, Nat.reduceBEq, Nat.reduceAdd, Nat.reduceMul, Nat.reduceSub, Int.reduceToNat, zy17, zy18, zy19, zy20, Nat.reduceLT, Nat.reduceLeDiff, zy21, zy22, zy23, zy24, zy25, zy26, Int.reduceAdd, Int.reduceMul, Int.reduceSub, Int.reduceNeg, Int.reduceDiv, Int.reduceMod, zy27, e5, e6, e7, e46, e47, e48, h63, hn64, hwn]
                       done)
                    | (have hf2 : f = 0 := by omega
                       simp (maxSteps := 10000000) (disch := first | assumption | omega | (simp only [zy19, zy17, zy18, zy34, zy35, zy36, zy11, zy12, rsL] <;> omega) | with_reducible exact rowOK_nil _ _ | ((repeat' apply rowOK_put) <;> first | assumption | exact rowP_ok _ _ _ _ _ | omega) | (simp only [rsI]; done)) only [↓rsW, ↓rsd, rsu, rsX, zyB, Int.reduceEq, ↓reduceIte, zy0, zy1, zy2, zy3, zy4, zy5, zy6, zy7, zy8, zy9, zy10, zy11, zy12, zy13, zy14, zy15, zy16, Nat.reduceEqDiff, Nat.reduceBEq, Nat.reduceAdd, Nat.reduceMul, Nat.reduceSub, Int.reduceToNat, zy17, zy18, zy19, zy20, Nat.reduceLT, Nat.reduceLeDiff, zy21, zy22, zy23, zy24, zy25, zy26, Int.reduceAdd, Int.reduceMul, Int.reduceSub, Int.reduceNeg, Int.reduceDiv, Int.reduceMod, zy27, e5, e6, e7, e46, e47, e48, h63, hwp]
                       done)
end Go.Proofs.Ytoccgkgdhobmfaa.Am.Ru
set_option maxRecDepth 100000
set_option linter.unusedSimpArgs false
set_option linter.unusedVariables false
namespace Go.Proofs.Ytoccgkgdhobmfaa.Am.Ru
open Go
variable {G : Nat → Option (List V)} {E : Nat → Option (CallFn → List V → Hp → Nat → Option Out)}
end Go.Proofs.Ytoccgkgdhobmfaa.Am.Ru
set_option maxRecDepth 100000
set_option linter.unusedSimpArgs false
set_option linter.unusedVariables false
namespace Go.Proofs.Ytoccgkgdhobmfaa.Am.Ru
open Go
variable {G : Nat → Option (List V)} {E : Nat → Option (CallFn → List V → Hp → Nat → Option Out)}
theorem getI_size (b : List UInt8) : (getI b).2.2 = 0 → 1 ≤ (getI b).2.1 ∧ (getI b).2.1 ≤ b.length := by
  unfold getI
  split
  · intro h; cases h
  · split
    · intro h; cases h
    · split
      · intro h; cases h
      · split
        · intro h; cases h
        · split
          · intro h; cases h
          · intro _; simp only; omega
/-- What reading a value comes to: the value, the error, where it ends, how many nodes are left. -/
structure DR where
  v : Val
  e : Int
  a : Nat
  l : Int
def decL (f : Nat → Int → DR) : Nat → List Val → Nat → Int → List Val × Int × Nat × Int
  | 0, acc, a, l => (acc, 0, a, l)
  | c + 1, acc, a, l => if (f a l).e = 0 then decL f c (acc ++ [(f a l).v]) (f a l).a (f a l).l else ([], (f a l).e, (f a l).a, (f a l).l)
def decK (f : Nat → Int → DR) (k n c : Int) (a : Nat) (l : Int) : DR :=
  if c < 0 then ⟨Val.z, 2, a, l⟩
  else if (decL f c.toNat [] a l).2.1 = 0 then ⟨.mk k n (decL f c.toNat [] a l).1, 0, (decL f c.toNat [] a l).2.2.1, (decL f c.toNat [] a l).2.2.2⟩
  else ⟨Val.z, (decL f c.toNat [] a l).2.1, (decL f c.toNat [] a l).2.2.1, (decL f c.toNat [] a l).2.2.2⟩
def dec3 (f : Nat → Int → DR) (b : List UInt8) (a : Nat) (l : Int) : DR :=
  let g1 := getI (b.drop a)
  if g1.2.2 = 0 then
    let a1 := a + g1.2.1.toNat
    let g2 := getI (b.drop a1)
    if g2.2.2 = 0 then
      let a2 := a1 + g2.2.1.toNat
      let g3 := getI (b.drop a2)
      if g3.2.2 = 0 then decK f g1.1 g2.1 g3.1 (a2 + g3.2.1.toNat) l else ⟨Val.z, g3.2.2, a2, l⟩
    else ⟨Val.z, g2.2.2, a1, l⟩
  else ⟨Val.z, g1.2.2, a, l⟩
def decF (b : List UInt8) : Nat → Nat → Int → DR
  | 0, a, l => ⟨Val.z, 4, a, l - 1⟩
  | n + 1, a, l => if l - 1 < 0 then ⟨Val.z, 4, a, l - 1⟩ else dec3 (decF b n) b a (l - 1)
def DB (len : Nat) (f : Nat → Int → DR) : Prop := ∀ a l, a ≤ len → 0 ≤ l → -1 ≤ (f a l).l ∧ (f a l).l ≤ l ∧ (f a l).a ≤ len ∧ ((f a l).e = 0 → 0 ≤ (f a l).l ∧ (f a l).l ≤ l - 1)
theorem decL_succ (f : Nat → Int → DR) (c : Nat) (acc : List Val) (a : Nat) (l : Int) : decL f (c + 1) acc a l = if (f a l).e = 0 then decL f c (acc ++ [(f a l).v]) (f a l).a (f a l).l else ([], (f a l).e, (f a l).a, (f a l).l) := rfl
theorem decL_le {len : Nat} {f : Nat → Int → DR} (hf : DB len f) : ∀ (c : Nat) (acc : List Val) (a : Nat) (l : Int), a ≤ len → 0 ≤ l → -1 ≤ (decL f c acc a l).2.2.2 ∧ (decL f c acc a l).2.2.2 ≤ l ∧ (decL f c acc a l).2.2.1 ≤ len ∧ ((decL f c acc a l).2.1 = 0 → 0 ≤ (decL f c acc a l).2.2.2)
  | 0, acc, a, l, ha, hl => ⟨by simp only [decL]; omega, by simp only [decL]; omega, by simp only [decL]; omega, fun _ => hl⟩
  | c + 1, acc, a, l, ha, hl => by
    have h := hf a l ha hl
    rw [decL_succ]
    by_cases he : (f a l).e = 0
    · rw [if_pos he]
      have := decL_le hf c (acc ++ [(f a l).v]) (f a l).a _ h.2.2.1 (h.2.2.2 he).1
      exact ⟨this.1, by omega, this.2.2.1, this.2.2.2⟩
    · rw [if_neg he]
      exact ⟨h.1, h.2.1, h.2.2.1, fun h0 => absurd h0 he⟩
theorem decK_le {len : Nat} {f : Nat → Int → DR} (hf : DB len f) (k n c : Int) (a : Nat) (l : Int) (ha : a ≤ len) (hl : 0 ≤ l) : -1 ≤ (decK f k n c a l).l ∧ (decK f k n c a l).l ≤ l ∧ (decK f k n c a l).a ≤ len ∧ ((decK f k n c a l).e = 0 → 0 ≤ (decK f k n c a l).l) := by
  unfold decK
  have h := decL_le hf c.toNat [] a l ha hl
  split
  · exact ⟨by simp only; omega, by simp, ha, fun h => by cases h⟩
  · split
    · rename_i he; exact ⟨h.1, h.2.1, h.2.2.1, fun _ => h.2.2.2 he⟩
    · rename_i he; exact ⟨h.1, h.2.1, h.2.2.1, fun h0 => absurd h0 he⟩
theorem dec3_le {f : Nat → Int → DR} (b : List UInt8) (hf : DB b.length f) (a : Nat) (l : Int) (ha : a ≤ b.length) (hl : 0 ≤ l) : -1 ≤ (dec3 f b a l).l ∧ (dec3 f b a l).l ≤ l ∧ (dec3 f b a l).a ≤ b.length ∧ ((dec3 f b a l).e = 0 → 0 ≤ (dec3 f b a l).l) := by
  have s1 := getI_size (b.drop a)
  simp only [dec3]
  rw [List.length_drop] at s1
  by_cases h1 : (getI (b.drop a)).2.2 = 0
  · rw [if_pos h1]
    have s1 := s1 h1
    have s2 := getI_size (b.drop (a + (getI (b.drop a)).2.1.toNat))
    rw [List.length_drop] at s2
    by_cases h2 : (getI (b.drop (a + (getI (b.drop a)).2.1.toNat))).2.2 = 0
    · rw [if_pos h2]
      have s2 := s2 h2
      have s3 := getI_size (b.drop (a + (getI (b.drop a)).2.1.toNat + (getI (b.drop (a + (getI (b.drop a)).2.1.toNat))).2.1.toNat))
      rw [List.length_drop] at s3
      by_cases h3 : (getI (b.drop (a + (getI (b.drop a)).2.1.toNat + (getI (b.drop (a + (getI (b.drop a)).2.1.toNat))).2.1.toNat))).2.2 = 0
      · rw [if_pos h3]
        have s3 := s3 h3
        exact decK_le hf _ _ _ _ _ (by omega) hl
      · rw [if_neg h3]; exact ⟨by simp only; omega, by simp, by simp only; omega, fun h => absurd h h3⟩
    · rw [if_neg h2]; exact ⟨by simp only; omega, by simp, by simp only; omega, fun h => absurd h h2⟩
  · rw [if_neg h1]; exact ⟨by simp only; omega, by simp, ha, fun h => absurd h h1⟩
theorem decF_le (b : List UInt8) : ∀ n, DB b.length (decF b n) := by
  intro n
  induction n with
  | zero => intro a l ha hl; simp only [decF]; exact ⟨by omega, by omega, ha, fun h => by cases h⟩
  | succ n ih =>
    intro a l ha hl
    simp only [decF]
    split
    · exact ⟨by simp only; omega, by simp only; omega, ha, fun h => by cases h⟩
    · have := dec3_le b ih a (l - 1) ha (by omega)
      exact ⟨this.1, by omega, this.2.2.1, fun h => ⟨this.2.2.2 h, this.2.1⟩⟩
abbrev redFn (i j k r : Nat) : AObj := .box [.fn 104 [.ptr i 0, .ptr j 0, .ptr k 0, .ptr r 0]]
abbrev bBox (b : List UInt8) : AObj := .box [.sl 1 (bytesV b)]
def RedOk (cf : CallFn) (b : List UInt8) (n : Nat) : Prop := ∀ (d a : Nat) (l : Int) (i j k r N : Nat), n + d = 25 → i ≠ j → i ≠ k → i ≠ r → j ≠ k → j ≠ r → k ≠ r → i < N → j < N → k < N → r < N → a ≤ b.length → 0 ≤ l → l ≤ 256 →
  valW cf 104 [.int .i64 d, .ptr i 0, .ptr j 0, .ptr k 0, .ptr r 0] (hl [(r, redFn i j k r), (k, .box [.int .i64 a]), (j, bBox b), (i, .box [.int .i64 l])]) N [r, k, j, i] =
    some (.ret (.tup [.agg (decF b n a l).v.row, .int .i64 (decF b n a l).e]), [redFn i j k r, .box [.int .i64 (decF b n a l).a], bBox b, .box [.int .i64 (decF b n a l).l]])
set_option maxHeartbeats 4000000 in
theorem red_ok (hE : XOK E) (b : List UInt8) (hb : b.length < 9223372036854775808) : ∀ n, RedOk (cfW G T E) b n := by
  intro n
  induction n with
  | zero =>
    intro d a l i j k r N hd hij hik hir hjk hjr hkr hi hj hk hr ha h0 h1
    refine xrunW 16 (m := m104) hE rfl rfl rfl rfl ?_
    simp only [decF]
    by_cases c1 : l - 1 < 0
    · simp (maxSteps := 10000000) (disch := first | assumption | omega | (simp only [zy19, zy17, zy18, zy34, zy35, zy36, zy11, zy12, rsL] <;> omega) | with_reducible exact rowOK_nil _ _ | ((repeat' apply rowOK_put) <;> first | assumption | exact rowP_ok _ _ _ _ _ | omega) | (simp only [rsI]; done)) only [↓rsW, ↓rsd, rsu, rsX, zyB, Int.reduceEq, ↓reduceIte, zy0, zy1, zy2, zy3, zy4, zy5, zy6, zy7, zy8, zy9, zy10, zy11, zy12, zy13, zy14, zy15, zy16, Nat.reduceEqDiff, Nat.reduceBEq, Nat.reduceAdd, Nat.reduceMul, Nat.reduceSub, Int.reduceToNat, zy17, zy18, zy19, zy20, Nat.reduceLT, Nat.reduceLeDiff, zy21, zy22, zy23, zy24, zy25, zy26, Int.reduceAdd, Int.reduceMul, Int.reduceSub, Int.reduceNeg, Int.reduceDiv, Int.reduceMod, zy27, m104, Vz_row]
    · simp (maxSteps := 10000000) (disch := first | assumption | omega | (simp only [zy19, zy17, zy18, zy34, zy35, zy36, zy11, zy12, rsL] <;> omega) | with_reducible exact rowOK_nil _ _ | ((repeat' apply rowOK_put) <;> first | assumption | exact rowP_ok _ _ _ _ _ | omega) | (simp only [rsI]; done)) only [↓rsW, ↓rsd, rsu, rsX, zyB, Int.reduceEq, ↓reduceIte, zy0, zy1, zy2, zy3, zy4, zy5, zy6, zy7, zy8, zy9, zy10, zy11, zy12, zy13, zy14, zy15, zy16, Nat.reduceEqDiff, Nat.reduceBEq, Nat.reduceAdd, Nat.reduceMul, Nat.reduceSub, Int.reduceToNat, zy17, zy18, zy19, zy20, Nat.reduceLT, Nat.reduceLeDiff, zy21, zy22, zy23, zy24, zy25, zy26, Int.reduceAdd, Int.reduceMul, Int.reduceSub, Int.reduceNeg, Int.reduceDiv, Int.reduceMod, zy27, m104, Vz_row]
  | succ n ih =>
    intro d a l i j k r N hd hij hik hir hjk hjr hkr hi hj hk hr ha h0 h1
    generalize hR : decF b (n + 1) a l = R
    refine xrunW 16 (m := m104) hE rfl rfl rfl rfl ?_
    simp only [decF] at hR
    by_cases c1 : l - 1 < 0
    · rw [if_pos c1] at hR
      simp (maxSteps := 10000000) (disch := first | assumption | omega | (simp only [zy19, zy17, zy18, zy34, zy35, zy36, zy11, zy12, rsL] <;> omega) | with_reducible exact rowOK_nil _ _ | ((repeat' apply rowOK_put) <;> first | assumption | exact rowP_ok _ _ _ _ _ | omega) | (simp only [rsI]; done)) only [↓rsW, ↓rsd, rsu, rsX, zyB, Int.reduceEq, ↓reduceIte, zy0, zy1, zy2, zy3, zy4, zy5, zy6, zy7, zy8, zy9, zy10, zy11, zy12, zy13, zy14, zy15, zy16, Nat.reduceEqDiff, Nat.reduceBEq, Nat.reduceAdd, Nat.reduceMul, Nat.reduceSub, Int.reduceToNat, zy17, zy18, zy19, zy20, Nat.reduceLT, Nat.reduceLeDiff, zy21, zy22, zy23, zy24, zy25, zy26, Int.reduceAdd, Int.reduceMul, Int.reduceSub, Int.reduceNeg, Int.reduceDiv, Int.reduceMod, zy27, m104]
      rw [← hR]
      simp only [Vz_row]
    · rw [if_neg c1] at hR
      have hg : ∀ a : Nat, a ≤ b.length → valP (cfW G T E) 105 [.sl 1 (bytesV (b.drop a))] = some (.ret (.tup [.int .i64 (getI (b.drop a)).1, .int .i64 (getI (b.drop a)).2.1, .int .i64 (getI (b.drop a)).2.2])) := fun a ha => getInt_ok hE _ (by rw [List.length_drop]; omega)
      have g1 := hg a ha
      have s1 := getI_size (b.drop a)
      rw [List.length_drop] at s1
      have hdr : ∀ a : Nat, a ≤ b.length → (b.drop a).take (b.length - a) = b.drop a := fun a ha => List.take_of_length_le (by rw [List.length_drop]; omega)
      have hdr1 := hdr a ha
      simp only [dec3] at hR
      simp (maxSteps := 10000000) (disch := first | assumption | omega | (simp only [zy19, zy17, zy18, zy34, zy35, zy36, zy11, zy12, rsL] <;> omega) | with_reducible exact rowOK_nil _ _ | ((repeat' apply rowOK_put) <;> first | assumption | exact rowP_ok _ _ _ _ _ | omega) | (simp only [rsI]; done)) only [↓rsW, ↓rsd, rsu, rsX, zyB, Int.reduceEq, ↓reduceIte, zy0, zy1, zy2, zy3, zy4, zy5, zy6, zy7, zy8, zy9, zy10, zy11, zy12, zy13, zy14, zy15, zy16, Nat.reduceEqDiff, Nat.reduceBEq, Nat.reduceAdd, Nat.reduceMul, Nat.reduceSub, Int.reduceToNat, zy17, zy18, zy19, zy20, Nat.reduceLT, Nat.reduceLeDiff, zy21, zy22, zy23, zy24, zy25, zy26, Int.reduceAdd, Int.reduceMul, Int.reduceSub, Int.reduceNeg, Int.reduceDiv, Int.reduceMod, zy27, m104]
      refine go_once ?_
      by_cases e1 : (getI (b.drop a)).2.2 = 0
      · rw [if_pos e1] at hR
        have s1 := s1 e1
        generalize hn1 : (getI (b.drop a)).2.1 = z1 at s1 g1 hR
        generalize hv1 : (getI (b.drop a)).1 = y1 at g1 hR
        rw [e1] at g1
        have ha1 : a + z1.toNat ≤ b.length := by omega
        have hz1 : (a : Int) + z1 = ((a + z1.toNat : Nat) : Int) := by omega
        have g2 := hg _ ha1
        have s2 := getI_size (b.drop (a + z1.toNat))
        rw [List.length_drop] at s2
        have hdr2 := hdr _ ha1
        generalize a + z1.toNat = a1 at ha1 hz1 g2 s2 hdr2 hR
        simp (maxSteps := 10000000) (disch := first | assumption | omega | (simp only [zy19, zy17, zy18, zy34, zy35, zy36, zy11, zy12, rsL] <;> omega) | with_reducible exact rowOK_nil _ _ | ((repeat' apply rowOK_put) <;> first | assumption | exact rowP_ok _ _ _ _ _ | omega) | (simp only [rsI]; done)) only [↓rsW, ↓rsd, rsu, rsX, zyB, Int.reduceEq, ↓reduceIte, zy0, zy1, zy2, zy3, zy4, zy5, zy6, zy7, zy8, zy9, zy10, zy11, zy12, zy13, zy14, zy15, zy16, Nat.reduceEqDiff, Nat.reduceBEq, Nat.reduceAdd, Nat.reduceMul, Nat.reduceSub, Int.reduceToNat, zy17, zy18, zy19, zy20, Nat.reduceLT, Nat.reduceLeDiff, zy21, zy22, zy23, zy24, zy25, zy26, Int.reduceAdd, Int.reduceMul, Int.reduceSub, Int.reduceNeg, Int.reduceDiv, Int.reduceMod, zy27, g1, hz1, hdr1]
        refine go_once ?_
        by_cases e2 : (getI (b.drop a1)).2.2 = 0
        · rw [if_pos e2] at hR
          have s2 := s2 e2
          generalize hn2 : (getI (b.drop a1)).2.1 = z2 at s2 g2 hR
          generalize hv2 : (getI (b.drop a1)).1 = y2 at g2 hR
          rw [e2] at g2
          have ha2 : a1 + z2.toNat ≤ b.length := by omega
          have hz2 : (a1 : Int) + z2 = ((a1 + z2.toNat : Nat) : Int) := by omega
          have g3 := hg _ ha2
          have s3 := getI_size (b.drop (a1 + z2.toNat))
          rw [List.length_drop] at s3
          have hdr3 := hdr _ ha2
          generalize a1 + z2.toNat = a2 at ha2 hz2 g3 s3 hdr3 hR
          simp (maxSteps := 10000000) (disch := first | assumption | omega | (simp only [zy19, zy17, zy18, zy34, zy35, zy36, zy11, zy12, rsL] <;> omega) | with_reducible exact rowOK_nil _ _ | ((repeat' apply rowOK_put) <;> first | assumption | exact rowP_ok _ _ _ _ _ | omega) | (simp only [rsI]; done)) only [↓rsW, ↓rsd, rsu, rsX, zyB, Int.reduceEq, ↓reduceIte, zy0, zy1, zy2, zy3, zy4, zy5, zy6, zy7, zy8, zy9, zy10, zy11, zy12, zy13, zy14, zy15, zy16, Nat.reduceEqDiff, Nat.reduceBEq, Nat.reduceAdd, Nat.reduceMul, Nat.reduceSub, Int.reduceToNat, zy17, zy18, zy19, zy20, Nat.reduceLT, Nat.reduceLeDiff, zy21, zy22, zy23, zy24, zy25, zy26, Int.reduceAdd, Int.reduceMul, Int.reduceSub, Int.reduceNeg, Int.reduceDiv, Int.reduceMod, zy27, g2, hz2, hdr2]
          refine go_once ?_
          by_cases e3 : (getI (b.drop a2)).2.2 = 0
          · rw [if_pos e3] at hR
            have s3 := s3 e3
            generalize hn3 : (getI (b.drop a2)).2.1 = z3 at s3 g3 hR
            generalize hv3 : (getI (b.drop a2)).1 = y3 at g3 hR
            rw [e3] at g3
            have ha3 : a2 + z3.toNat ≤ b.length := by omega
            have hz3 : (a2 : Int) + z3 = ((a2 + z3.toNat : Nat) : Int) := by omega
            generalize a2 + z3.toNat = a3 at ha3 hz3 hR
            simp (maxSteps := 10000000) (disch := first | assumption | omega | (simp only [zy19, zy17, zy18, zy34, zy35, zy36, zy11, zy12, rsL] <;> omega) | with_reducible exact rowOK_nil _ _ | ((repeat' apply rowOK_put) <;> first | assumption | exact rowP_ok _ _ _ _ _ | omega) | (simp only [rsI]; done)) only [↓rsW, ↓rsd, rsu, rsX, zyB, Int.reduceEq, ↓reduceIte, zy0, zy1, zy2, zy3, zy4, zy5, zy6, zy7, zy8, zy9, zy10, zy11, zy12, zy13, zy14, zy15, zy16, Nat.reduceEqDiff, Nat.reduceBEq, Nat.reduceAdd, Nat.reduceMul, Nat.reduceSub, Int.reduceToNat, zy17, zy18, zy19, zy20, Nat.reduceLT, Nat.reduceLeDiff, zy21, zy22, zy23, zy24, zy25, zy26, Int.reduceAdd, Int.reduceMul, Int.reduceSub, Int.reduceNeg, Int.reduceDiv, Int.reduceMod, zy27, g3, hz3, hdr3]
            refine go_once ?_
            unfold decK at hR
            by_cases c2 : y3 < 0
            · rw [if_pos c2] at hR
              simp (maxSteps := 10000000) (disch := first | assumption | omega | (simp only [zy19, zy17, zy18, zy34, zy35, zy36, zy11, zy12, rsL] <;> omega) | with_reducible exact rowOK_nil _ _ | ((repeat' apply rowOK_put) <;> first | assumption | exact rowP_ok _ _ _ _ _ | omega) | (simp only [rsI]; done)) only [↓rsW, ↓rsd, rsu, rsX, zyB, Int.reduceEq, ↓reduceIte, zy0, zy1, zy2, zy3, zy4, zy5, zy6, zy7, zy8, zy9, zy10, zy11, zy12, zy13, zy14, zy15, zy16, Nat.reduceEqDiff, Nat.reduceBEq, Nat.reduceAdd, Nat.reduceMul, Nat.reduceSub, Int.reduceToNat, zy17, zy18, zy19, zy20, Nat.reduceLT, Nat.reduceLeDiff, zy21, zy22, zy23, zy24, zy25, zy26, Int.reduceAdd, Int.reduceMul, Int.reduceSub, Int.reduceNeg, Int.reduceDiv, Int.reduceMod, zy27]
              rw [← hR]
              simp only [Vz_row]
            · rw [if_neg c2] at hR
              simp (maxSteps := 10000000) (disch := first | assumption | omega | (simp only [zy19, zy17, zy18, zy34, zy35, zy36, zy11, zy12, rsL] <;> omega) | with_reducible exact rowOK_nil _ _ | ((repeat' apply rowOK_put) <;> first | assumption | exact rowP_ok _ _ _ _ _ | omega) | (simp only [rsI]; done)) only [↓rsW, ↓rsd, rsu, rsX, zyB, Int.reduceEq, ↓reduceIte, zy0, zy1, zy2, zy3, zy4, zy5, zy6, zy7, zy8, zy9, zy10, zy11, zy12, zy13, zy14, zy15, zy16, Nat.reduceEqDiff, Nat.reduceBEq, Nat.reduceAdd, Nat.reduceMul, Nat.reduceSub, Int.reduceToNat, zy17, zy18, zy19, zy20, Nat.reduceLT, Nat.reduceLeDiff, zy21, zy22, zy23, zy24, zy25, zy26, Int.reduceAdd, Int.reduceMul, Int.reduceSub, Int.reduceNeg, Int.reduceDiv, Int.reduceMod, zy27]
              have hzb := decF_le b n
              obtain ⟨cn, hcn⟩ : ∃ cn : Nat, y3 = (cn : Int) := ⟨y3.toNat, by omega⟩
              subst hcn
              rw [Int.toNat_natCast] at hR
              refine go_loop2 16 (fun n' s => ∃ (q jj aq : Nat) (acc : List Val) (lq : Int), n' = cn - q ∧ q ≤ cn ∧ acc.length = q ∧ (N + 3 ≤ s.N ∧ (jj < s.N ∧ N + 3 ≤ jj ∨ acc = [] ∧ s.N = N + 3 ∧ jj = N + 1000)) ∧ s.e 0 = .int .i64 d ∧ s.e 4 = .ptr r 0 ∧ s.e 6 = .ptr N 0 ∧ s.e 13 = .ptr (N + 2) 0 ∧
                s.e 57 = .int .i64 (cn : Nat) ∧ s.e 58 = .int .i64 (q : Nat) ∧ s.o i = .box [.int .i64 lq] ∧ s.o j = bBox b ∧ s.o k = .box [.int .i64 (aq : Nat)] ∧ s.o r = redFn i j k r ∧ s.o N = .box [.int .i64 0, .int .i64 0, .nils 3] ∧ s.o (N + 2) = .box [.int .i64 y1, .int .i64 y2, rowV 3 jj (Val.rows acc)] ∧ RowOK s.o 3 jj (Val.rows acc) ∧
                aq ≤ b.length ∧ 0 ≤ lq ∧ acc.length + lq ≤ 255 ∧ decL (decF b n) (cn - q) acc aq lq = decL (decF b n) cn [] a3 (l - 1)) cn ?_ ?_
              · refine ⟨0, N + 1000, a3, [], l - 1, rfl, by omega, rfl, ⟨Nat.le_refl _, .inr ⟨rfl, rfl, rfl⟩⟩, ?_⟩
                simp (maxSteps := 10000000) (disch := first | assumption | omega | (simp only [zy19, zy17, zy18, zy34, zy35, zy36, zy11, zy12, rsL] <;> omega) | with_reducible exact rowOK_nil _ _ | ((repeat' apply rowOK_put) <;> first | assumption | exact rowP_ok _ _ _ _ _ | omega) | (simp only [rsI]; done)) only [↓rsW, ↓rsd, rsu, rsX, zyB, Int.reduceEq, ↓reduceIte, zy0, zy1, zy2, zy3, zy4, zy5, zy6, zy7, zy8, zy9, zy10, zy11, zy12, zy13, zy14, zy15, zy16, Nat.reduceEqDiff, Nat.reduceBEq, Nat.reduceAdd, Nat.reduceMul, Nat.reduceSub, Int.reduceToNat, zy17, zy18, zy19, zy20, Nat.reduceLT, Nat.reduceLeDiff, zy21, zy22, zy23, zy24, zy25, zy26, Int.reduceAdd, Int.reduceMul, Int.reduceSub, Int.reduceNeg, Int.reduceDiv, Int.reduceMod, zy27]
                first | exact ⟨rfl, rfl, rowOK_nil _ _, ha3, by omega, by omega⟩ | exact ⟨rfl, rowOK_nil _ _, ha3, by omega, by omega⟩
              · rintro n' e o M ⟨q, jj, aq, acc, lq, hn, hq, hal, hM, f0, f4, f6, f13, f57, f58, oi, oj, ok, or, oN, oN2, hrow, haq, hl0, hl1, hI⟩
                simp only at hM f0 f4 f6 f13 f57 f58 oi oj ok or oN oN2 hrow
                have hjj : ¬ (jj = N) ∧ ¬ (jj = N + 2) ∧ ¬ (jj = i) ∧ ¬ (jj = j) ∧ ¬ (jj = k) ∧ ¬ (jj = r) ∧ ¬ (jj = M) ∧ ¬ (jj = M + 1) := by
                  rcases hM.2 with h | h
                  · omega
                  · omega
                obtain ⟨j1, j2, j3, j4, j5, j6, j7, j8⟩ := hjj
                have hM0 := hM.1
                by_cases hlt : q < cn
                · have hc := ih (d + 1) aq lq i j k r (M + 1) (by omega) hij hik hir hjk hjr hkr (by omega) (by omega) (by omega) (by omega) haq hl0 (by omega)
                  rw [nc1] at hc
                  have hle := hzb aq lq haq hl0
                  rw [show cn - q = (cn - (q + 1)) + 1 by omega, decL_succ] at hI
                  generalize hF : decF b n aq lq = F at hc hle hI
                  by_cases he : F.e = 0
                  · rw [if_pos he] at hI
                    have h9 := hle.2.2.2 he
                    simp (maxSteps := 10000000) (disch := first | assumption | omega | (simp only [zy19, zy17, zy18, zy34, zy35, zy36, zy11, zy12, rsL] <;> omega) | with_reducible exact rowOK_nil _ _ | ((repeat' apply rowOK_put) <;> first | assumption | exact rowP_ok _ _ _ _ _ | omega) | (simp only [rsI]; done)) only [↓rsW, ↓rsd, rsu, rsX, zyB, Int.reduceEq, ↓reduceIte, zy0, zy1, zy2, zy3, zy4, zy5, zy6, zy7, zy8, zy9, zy10, zy11, zy12, zy13, zy14, zy15, zy16, Nat.reduceEqDiff, Nat.reduceBEq, Nat.reduceAdd, Nat.reduceMul, Nat.reduceSub, Int.reduceToNat, zy17, zy18, zy19, zy20, Nat.reduceLT, Nat.reduceLeDiff, zy21, zy22, zy23, zy24, zy25, zy26, Int.reduceAdd, Int.reduceMul, Int.reduceSub, Int.reduceNeg, Int.reduceDiv, Int.reduceMod, zy27, f0, f4, f6, f13, f57, f58, oi, oj, ok, or, oN, oN2, hc, he]
                    refine ⟨_, by omega, q + 1, M + 1, _, _, _, rfl, by omega, ?_, by omega, rfl, rfl, rfl, rfl, ?_, hle.2.2.1, h9.1, ?_, hI⟩
                    · rw [List.length_append, hal]; rfl
                    · rw [← Val.rows_snoc]; exact rowOK_put (rowP_ok _ _ _ _ _) (by omega)
                    · rw [List.length_append, List.length_cons, List.length_nil]; omega
                  · rw [if_neg he] at hI
                    simp (maxSteps := 10000000) (disch := first | assumption | omega | (simp only [zy19, zy17, zy18, zy34, zy35, zy36, zy11, zy12, rsL] <;> omega) | with_reducible exact rowOK_nil _ _ | ((repeat' apply rowOK_put) <;> first | assumption | exact rowP_ok _ _ _ _ _ | omega) | (simp only [rsI]; done)) only [↓rsW, ↓rsd, rsu, rsX, zyB, Int.reduceEq, ↓reduceIte, zy0, zy1, zy2, zy3, zy4, zy5, zy6, zy7, zy8, zy9, zy10, zy11, zy12, zy13, zy14, zy15, zy16, Nat.reduceEqDiff, Nat.reduceBEq, Nat.reduceAdd, Nat.reduceMul, Nat.reduceSub, Int.reduceToNat, zy17, zy18, zy19, zy20, Nat.reduceLT, Nat.reduceLeDiff, zy21, zy22, zy23, zy24, zy25, zy26, Int.reduceAdd, Int.reduceMul, Int.reduceSub, Int.reduceNeg, Int.reduceDiv, Int.reduceMod, zy27, f0, f4, f6, f13, f57, f58, oi, oj, ok, or, oN, oN2, hc, he]
                    rw [← hR, ← hI]
                    simp only [he, if_false, Vz_row]
                · have hq' : cn = q := by omega
                  subst hq'
                  rw [Nat.sub_self] at hI
                  have hI' : decL (decF b n) cn [] a3 (l - 1) = (acc, 0, aq, lq) := hI.symm
                  simp (maxSteps := 10000000) (disch := first | assumption | omega | (simp only [zy19, zy17, zy18, zy34, zy35, zy36, zy11, zy12, rsL] <;> omega) | with_reducible exact rowOK_nil _ _ | ((repeat' apply rowOK_put) <;> first | assumption | exact rowP_ok _ _ _ _ _ | omega) | (simp only [rsI]; done)) only [↓rsW, ↓rsd, rsu, rsX, zyB, Int.reduceEq, ↓reduceIte, zy0, zy1, zy2, zy3, zy4, zy5, zy6, zy7, zy8, zy9, zy10, zy11, zy12, zy13, zy14, zy15, zy16, Nat.reduceEqDiff, Nat.reduceBEq, Nat.reduceAdd, Nat.reduceMul, Nat.reduceSub, Int.reduceToNat, zy17, zy18, zy19, zy20, Nat.reduceLT, Nat.reduceLeDiff, zy21, zy22, zy23, zy24, zy25, zy26, Int.reduceAdd, Int.reduceMul, Int.reduceSub, Int.reduceNeg, Int.reduceDiv, Int.reduceMod, zy27, f0, f4, f6, f13, f57, f58, oi, oj, ok, or, oN, oN2]
                  rw [← hR, hI']
                  simp only [if_true, Val.row_eq, Val.kind_mk, Val.n_mk, Val.kids_mk]
          · rw [if_neg e3] at hR
            simp (maxSteps := 10000000) (disch := first | assumption | omega | (simp only [zy19, zy17, zy18, zy34, zy35, zy36, zy11, zy12, rsL] <;> omega) | with_reducible exact rowOK_nil _ _ | ((repeat' apply rowOK_put) <;> first | assumption | exact rowP_ok _ _ _ _ _ | omega) | (simp only [rsI]; done)) only [↓rsW, ↓rsd, rsu, rsX, zyB, Int.reduceEq, ↓reduceIte, zy0, zy1, zy2, zy3, zy4, zy5, zy6, zy7, zy8, zy9, zy10, zy11, zy12, zy13, zy14, zy15, zy16, Nat.reduceEqDiff, Nat.reduceBEq, Nat.reduceAdd, Nat.reduceMul, Nat.reduceSub, Int.reduceToNat, zy17, zy18, zy19, zy20, Nat.reduceLT, Nat.reduceLeDiff, zy21, zy22, zy23, zy24, zy25, zy26, Int.reduceAdd, Int.reduceMul, Int.reduceSub, Int.reduceNeg, Int.reduceDiv, Int.reduceMod, zy27, g3, hdr3, e3]
            rw [← hR]
            simp only [Vz_row]
        · rw [if_neg e2] at hR
          simp (maxSteps := 10000000) (disch := first | assumption | omega | (simp only [zy19, zy17, zy18, zy34, zy35, zy36, zy11, zy12, rsL] <;> omega) | with_reducible exact rowOK_nil _ _ | ((repeat' apply rowOK_put) <;> first | assumption | exact rowP_ok _ _ _ _ _ | omega) | (simp only [rsI]; done)) only [↓rsW, ↓rsd, rsu, rsX, zyB, Int.reduceEq, ↓reduceIte, zy0, zy1, zy2, zy3, zy4, zy5, zy6, zy7, zy8, zy9, zy10, zy11, zy12, zy13, zy14, zy15, zy16, Nat.reduceEqDiff, Nat.reduceBEq, Nat.reduceAdd, Nat.reduceMul, Nat.reduceSub, Int.reduceToNat, zy17, zy18, zy19, zy20, Nat.reduceLT, Nat.reduceLeDiff, zy21, zy22, zy23, zy24, zy25, zy26, Int.reduceAdd, Int.reduceMul, Int.reduceSub, Int.reduceNeg, Int.reduceDiv, Int.reduceMod, zy27, g2, hdr2, e2]
          rw [← hR]
          simp only [Vz_row]
      · rw [if_neg e1] at hR
        simp (maxSteps := 10000000) (disch := first | assumption | omega | (simp only [zy19, zy17, zy18, zy34, zy35, zy36, zy11, zy12, rsL] <;> omega) | with_reducible exact rowOK_nil _ _ | ((repeat' apply rowOK_put) <;> first | assumption | exact rowP_ok _ _ _ _ _ | omega) | (simp only [rsI]; done)) only [↓rsW, ↓rsd, rsu, rsX, zyB, Int.reduceEq, ↓reduceIte, zy0, zy1, zy2, zy3, zy4, zy5, zy6, zy7, zy8, zy9, zy10, zy11, zy12, zy13, zy14, zy15, zy16, Nat.reduceEqDiff, Nat.reduceBEq, Nat.reduceAdd, Nat.reduceMul, Nat.reduceSub, Int.reduceToNat, zy17, zy18, zy19, zy20, Nat.reduceLT, Nat.reduceLeDiff, zy21, zy22, zy23, zy24, zy25, zy26, Int.reduceAdd, Int.reduceMul, Int.reduceSub, Int.reduceNeg, Int.reduceDiv, Int.reduceMod, zy27, g1, hdr1, e1]
        rw [← hR]
        simp only [Vz_row]
end Go.Proofs.Ytoccgkgdhobmfaa.Am.Ru
set_option maxRecDepth 100000
set_option linter.unusedSimpArgs false
set_option linter.unusedVariables false
namespace Go.Proofs.Ytoccgkgdhobmfaa.Am.Ru
open Go
variable {G : Nat → Option (List V)} {E : Nat → Option (CallFn → List V → Hp → Nat → Option Out)}
def decV (b : List UInt8) : DR := decF b 24 0 256
def decT (F : DR) : V := if F.e = 0 then .tup [.agg F.v.row, .int .i64 (F.a : Nat), .int .i64 0] else .tup [.agg Val.z.row, .int .i64 0, .int .i64 F.e]
theorem decode_ok (hE : XOK E) (b : List UInt8) (hb : b.length < 9223372036854775808) : valP (cfW G T E) 59 [.sl 1 (bytesV b)] = some (.ret (decT (decV b))) := by
  have hc := red_ok (G := G) hE b hb 24 1 0 256 2 0 3 4 6 (by omega) (by omega) (by omega) (by omega) (by omega) (by omega) (by omega) (by omega) (by omega) (by omega) (by omega) (by omega) (by omega) (by omega)
  rw [show ((1 : Nat) : Int) = 1 from rfl, show ((0 : Nat) : Int) = 0 from rfl] at hc
  have hF : decF b 24 0 256 = decV b := rfl
  rw [hF] at hc
  generalize decV b = F at hc ⊢
  refine xrun 10 (m := m59) hE rfl rfl rfl rfl ?_
  unfold decT
  by_cases he : F.e = 0
  · rw [if_pos he]
    simp (maxSteps := 10000000) (disch := first | assumption | omega | (simp only [zy19, zy17, zy18, zy34, zy35, zy36, zy11, zy12, rsL] <;> omega) | with_reducible exact rowOK_nil _ _ | ((repeat' apply rowOK_put) <;> first | assumption | exact rowP_ok _ _ _ _ _ | omega) | (simp only [rsI]; done)) only [↓rsW, ↓rsd, rsu, rsX, zyB, Int.reduceEq, ↓reduceIte, zy0, zy1, zy2, zy3, zy4, zy5, zy6, zy7, zy8, zy9, zy10, zy11, zy12, zy13, zy14, zy15, zy16, Nat.reduceEqDiff, Nat.reduceBEq, Nat.reduceAdd, Nat.reduceMul, Nat.reduceSub, Int.reduceToNat, zy17, zy18, zy19, zy20, Nat.reduceLT, Nat.reduceLeDiff, zy21, zy22, zy23, zy24, zy25, zy26, Int.reduceAdd, Int.reduceMul, Int.reduceSub, Int.reduceNeg, Int.reduceDiv, Int.reduceMod, zy27, m59, hc, he]
  · rw [if_neg he]
    simp (maxSteps := 10000000) (disch := first | assumption | omega | (simp only [zy19, zy17, zy18, zy34, zy35, zy36, zy11, zy12, rsL] <;> omega) | with_reducible exact rowOK_nil _ _ | ((repeat' apply rowOK_put) <;> first | assumption | exact rowP_ok _ _ _ _ _ | omega) | (simp only [rsI]; done)) only [↓rsW, ↓rsd, rsu, rsX, zyB, Int.reduceEq, ↓reduceIte, zy0, zy1, zy2, zy3, zy4, zy5, zy6, zy7, zy8, zy9, zy10, zy11, zy12, zy13, zy14, zy15, zy16, Nat.reduceEqDiff, Nat.reduceBEq, Nat.reduceAdd, Nat.reduceMul, Nat.reduceSub, Int.reduceToNat, zy17, zy18, zy19, zy20, Nat.reduceLT, Nat.reduceLeDiff, zy21, zy22, zy23, zy24, zy25, zy26, Int.reduceAdd, Int.reduceMul, Int.reduceSub, Int.reduceNeg, Int.reduceDiv, Int.reduceMod, zy27, m59, hc, he, Vz_row]
end Go.Proofs.Ytoccgkgdhobmfaa.Am.Ru
set_option maxRecDepth 100000
set_option linter.unusedSimpArgs false
set_option linter.unusedVariables false
namespace Go.Proofs.Ytoccgkgdhobmfaa.Am.Ru
open Go
variable {G : Nat → Option (List V)} {E : Nat → Option (CallFn → List V → Hp → Nat → Option Out)}
/-- A number from 0 to m - 1. -/
def arnd (n m : Int) : Int := (if n < 0 then -(n + 1) else n) % m
theorem arnd_nonneg (n m : Int) (h : 0 < m) : 0 ≤ arnd n m := Int.emod_nonneg _ (by omega)
theorem arnd_lt (n m : Int) (h : 0 < m) : arnd n m < m := Int.emod_lt_of_pos _ h
theorem around_ok (hE : XOK E) (n m : Int) (h0 : -9223372036854775808 ≤ n) (h1 : n < 9223372036854775808) (hm : 0 < m) : valP (cfW G T E) 28 [.int .i64 n, .int .i64 m] = some (.ret (.int .i64 (arnd n m))) := by
  refine xrun 4 (m := m28) hE rfl rfl rfl rfl ?_
  unfold arnd
  by_cases hn : n < 0
  · rw [if_pos hn]
    simp (maxSteps := 10000000) (disch := first | assumption | omega | (simp only [zy19, zy17, zy18, zy34, zy35, zy36, zy11, zy12, rsL] <;> omega) | with_reducible exact rowOK_nil _ _ | ((repeat' apply rowOK_put) <;> first | assumption | exact rowP_ok _ _ _ _ _ | omega) | (simp only [rsI]; done)) only [↓rsW, ↓rsd, rsu, rsX, zyB, Int.reduceEq, ↓reduceIte, zy0, zy1, zy2, zy3, zy4, zy5, zy6, zy7, zy8, zy9, zy10, zy11, zy12, zy13, zy14, zy15, zy16, Nat.reduceEqDiff, Nat.reduceBEq, Nat.reduceAdd, Nat.reduceMul, Nat.reduceSub, Int.reduceToNat, zy17, zy18, zy19, zy20, Nat.reduceLT, Nat.reduceLeDiff, zy21, zy22, zy23, zy24, zy25, zy26, Int.reduceAdd, Int.reduceMul, Int.reduceSub, Int.reduceNeg, Int.reduceDiv, Int.reduceMod, zy27, rsY, m28]
  · rw [if_neg hn]
    simp (maxSteps := 10000000) (disch := first | assumption | omega | (simp only [zy19, zy17, zy18, zy34, zy35, zy36, zy11, zy12, rsL] <;> omega) | with_reducible exact rowOK_nil _ _ | ((repeat' apply rowOK_put) <;> first | assumption | exact rowP_ok _ _ _ _ _ | omega) | (simp only [rsI]; done)) only [↓rsW, ↓rsd, rsu, rsX, zyB, Int.reduceEq, ↓reduceIte, zy0, zy1, zy2, zy3, zy4, zy5, zy6, zy7, zy8, zy9, zy10, zy11, zy12, zy13, zy14, zy15, zy16, Nat.reduceEqDiff, Nat.reduceBEq, Nat.reduceAdd, Nat.reduceMul, Nat.reduceSub, Int.reduceToNat, zy17, zy18, zy19, zy20, Nat.reduceLT, Nat.reduceLeDiff, zy21, zy22, zy23, zy24, zy25, zy26, Int.reduceAdd, Int.reduceMul, Int.reduceSub, Int.reduceNeg, Int.reduceDiv, Int.reduceMod, zy27, rsY, m28]
/-- The numbers of a list are the machine's. -/
def okI (l : List Int) : Prop := l.length < 9223372036854775808 ∧ ∀ x ∈ l, -9223372036854775808 ≤ x ∧ x < 9223372036854775808
def atL (l : List Int) (i m : Int) : Int := if i < 0 ∨ (l.length : Int) ≤ i then 0 else arnd (l.getD i.toNat 0) m
theorem atL_nonneg (l : List Int) (i m : Int) (h : 0 < m) : 0 ≤ atL l i m := by
  unfold atL; split
  · omega
  · exact arnd_nonneg _ _ h
theorem atL_lt (l : List Int) (i m : Int) (h : 0 < m) : atL l i m < m := by
  unfold atL; split
  · omega
  · exact arnd_lt _ _ h
def rowI (l : List Int) : List (List V) := l.map fun n => [.int .i64 n]
theorem rowI_get (l : List Int) (j : Nat) (h : j < l.length) : (rowI l)[j]? = some [.int .i64 (l.getD j 0)] := by
  unfold rowI; rw [List.getElem?_map, List.getD_eq_getElem?_getD, List.getElem?_eq_getElem h]; rfl
theorem rowI_len (l : List Int) : (rowI l).length = l.length := by simp [rowI]
theorem at_ok (hE : XOK E) (l : List Int) (i m : Int) (hl : okI l) (hm : 0 < m) : valP (cfW G T E) 61 [.sl 1 (rowI l), .int .i64 i, .int .i64 m] = some (.ret (.int .i64 (atL l i m))) := by
  have hl1 := hl.1
  refine xrun 6 (m := m61) hE rfl rfl rfl rfl ?_
  unfold atL
  by_cases h0 : i < 0
  · rw [if_pos (.inl h0)]
    simp (maxSteps := 10000000) (disch := first | assumption | omega | (simp only [zy19, zy17, zy18, zy34, zy35, zy36, zy11, zy12, rsL] <;> omega) | with_reducible exact rowOK_nil _ _ | ((repeat' apply rowOK_put) <;> first | assumption | exact rowP_ok _ _ _ _ _ | omega) | (simp only [rsI]; done)) only [↓rsW, ↓rsd, rsu, rsX, zyB, Int.reduceEq, ↓reduceIte, zy0, zy1, zy2, zy3, zy4, zy5, zy6, zy7, zy8, zy9, zy10, zy11, zy12, zy13, zy14, zy15, zy16, Nat.reduceEqDiff, Nat.reduceBEq, Nat.reduceAdd, Nat.reduceMul, Nat.reduceSub, Int.reduceToNat, zy17, zy18, zy19, zy20, Nat.reduceLT, Nat.reduceLeDiff, zy21, zy22, zy23, zy24, zy25, zy26, Int.reduceAdd, Int.reduceMul, Int.reduceSub, Int.reduceNeg, Int.reduceDiv, Int.reduceMod, zy27, rsY, m61, rowI_len]
  · by_cases h1 : (l.length : Int) ≤ i
    · rw [if_pos (.inr h1)]
      simp (maxSteps := 10000000) (disch := first | assumption | omega | (simp only [zy19, zy17, zy18, zy34, zy35, zy36, zy11, zy12, rsL] <;> omega) | with_reducible exact rowOK_nil _ _ | ((repeat' apply rowOK_put) <;> first | assumption | exact rowP_ok _ _ _ _ _ | omega) | (simp only [rsI]; done)) only [↓rsW, ↓rsd, rsu, rsX, zyB, Int.reduceEq, ↓reduceIte, zy0, zy1, zy2, zy3, zy4, zy5, zy6, zy7, zy8, zy9, zy10, zy11, zy12, zy13, zy14, zy15, zy16, Nat.reduceEqDiff, Nat.reduceBEq, Nat.reduceAdd, Nat.reduceMul, Nat.reduceSub, Int.reduceToNat, zy17, zy18, zy19, zy20, Nat.reduceLT, Nat.reduceLeDiff, zy21, zy22, zy23, zy24, zy25, zy26, Int.reduceAdd, Int.reduceMul, Int.reduceSub, Int.reduceNeg, Int.reduceDiv, Int.reduceMod, zy27, rsY, m61, rowI_len]
    · rw [if_neg (by omega)]
      have hb := hl.2 _ (getD_mem l i.toNat 0 (by omega))
      have hg := rowI_get l i.toNat (by omega)
      have hrl := rowI_len l
      have hc := around_ok (G := G) hE (l.getD i.toNat 0) m hb.1 hb.2 hm
      simp (maxSteps := 10000000) (disch := first | assumption | omega | (simp only [zy19, zy17, zy18, zy34, zy35, zy36, zy11, zy12, rsL] <;> omega) | with_reducible exact rowOK_nil _ _ | ((repeat' apply rowOK_put) <;> first | assumption | exact rowP_ok _ _ _ _ _ | omega) | (simp only [rsI]; done)) only [↓rsW, ↓rsd, rsu, rsX, zyB, Int.reduceEq, ↓reduceIte, zy0, zy1, zy2, zy3, zy4, zy5, zy6, zy7, zy8, zy9, zy10, zy11, zy12, zy13, zy14, zy15, zy16, Nat.reduceEqDiff, Nat.reduceBEq, Nat.reduceAdd, Nat.reduceMul, Nat.reduceSub, Int.reduceToNat, zy17, zy18, zy19, zy20, Nat.reduceLT, Nat.reduceLeDiff, zy21, zy22, zy23, zy24, zy25, zy26, Int.reduceAdd, Int.reduceMul, Int.reduceSub, Int.reduceNeg, Int.reduceDiv, Int.reduceMod, zy27, rsY, m61, rowI_len, hg, hc]
/-- The identifier with a number. -/
def idK (k : Int) : Idn := ⟨0, 1 + k / 32, k % 32⟩
theorem id_ok (hE : XOK E) (k : Int) (h0 : 0 ≤ k) (h1 : k < 1000000000) : valP (cfW G T E) 35 [.int .i64 k] = some (.ret (.agg (idK k).row)) := by
  refine xrun 2 (m := m35) hE rfl rfl rfl rfl ?_
  simp (maxSteps := 10000000) (disch := first | assumption | omega | (simp only [zy19, zy17, zy18, zy34, zy35, zy36, zy11, zy12, rsL] <;> omega) | with_reducible exact rowOK_nil _ _ | ((repeat' apply rowOK_put) <;> first | assumption | exact rowP_ok _ _ _ _ _ | omega) | (simp only [rsI]; done)) only [↓rsW, ↓rsd, rsu, rsX, zyB, Int.reduceEq, ↓reduceIte, zy0, zy1, zy2, zy3, zy4, zy5, zy6, zy7, zy8, zy9, zy10, zy11, zy12, zy13, zy14, zy15, zy16, Nat.reduceEqDiff, Nat.reduceBEq, Nat.reduceAdd, Nat.reduceMul, Nat.reduceSub, Int.reduceToNat, zy17, zy18, zy19, zy20, Nat.reduceLT, Nat.reduceLeDiff, zy21, zy22, zy23, zy24, zy25, zy26, Int.reduceAdd, Int.reduceMul, Int.reduceSub, Int.reduceNeg, Int.reduceDiv, Int.reduceMod, zy27, rsY, m35]
  rfl
def ofT (i : Idn) : Typ := .mk 3 i []
theorem of_ok (hE : XOK E) (i : Idn) : valP (cfW G T E) 34 [.agg i.row] = some (.ret (.agg (ofT i).row)) := by
  refine xrun 2 (m := m34) hE rfl rfl rfl rfl ?_
  simp (maxSteps := 10000000) (disch := first | assumption | omega | (simp only [zy19, zy17, zy18, zy34, zy35, zy36, zy11, zy12, rsL] <;> omega) | with_reducible exact rowOK_nil _ _ | ((repeat' apply rowOK_put) <;> first | assumption | exact rowP_ok _ _ _ _ _ | omega) | (simp only [rsI]; done)) only [↓rsW, ↓rsd, rsu, rsX, zyB, Int.reduceEq, ↓reduceIte, zy0, zy1, zy2, zy3, zy4, zy5, zy6, zy7, zy8, zy9, zy10, zy11, zy12, zy13, zy14, zy15, zy16, Nat.reduceEqDiff, Nat.reduceBEq, Nat.reduceAdd, Nat.reduceMul, Nat.reduceSub, Int.reduceToNat, zy17, zy18, zy19, zy20, Nat.reduceLT, Nat.reduceLeDiff, zy21, zy22, zy23, zy24, zy25, zy26, Int.reduceAdd, Int.reduceMul, Int.reduceSub, Int.reduceNeg, Int.reduceDiv, Int.reduceMod, zy27, rsY, m34]
  rw [Typ.row_eq]
  rfl
def listT (t : Typ) : Typ := .mk 2 ⟨0, 0, 0⟩ [t]
theorem list_ok (hE : XOK E) (t : Typ) : valP (cfW G T E) 33 [.agg t.row] = some (.ret (.agg (listT t).row)) := by
  refine xrun 2 (m := m33) hE rfl rfl rfl rfl ?_
  simp (maxSteps := 10000000) (disch := first | assumption | omega | (simp only [zy19, zy17, zy18, zy34, zy35, zy36, zy11, zy12, rsL] <;> omega) | with_reducible exact rowOK_nil _ _ | ((repeat' apply rowOK_put) <;> first | assumption | exact rowP_ok _ _ _ _ _ | omega) | (simp only [rsI]; done)) only [↓rsW, ↓rsd, rsu, rsX, zyB, Int.reduceEq, ↓reduceIte, zy0, zy1, zy2, zy3, zy4, zy5, zy6, zy7, zy8, zy9, zy10, zy11, zy12, zy13, zy14, zy15, zy16, Nat.reduceEqDiff, Nat.reduceBEq, Nat.reduceAdd, Nat.reduceMul, Nat.reduceSub, Int.reduceToNat, zy17, zy18, zy19, zy20, Nat.reduceLT, Nat.reduceLeDiff, zy21, zy22, zy23, zy24, zy25, zy26, Int.reduceAdd, Int.reduceMul, Int.reduceSub, Int.reduceNeg, Int.reduceDiv, Int.reduceMod, zy27, rsY, m33]
  rw [Typ.row_eq (listT t)]
  rfl
theorem list_okc (hE : XOK E) (t : Typ) (cs : List V) (h : cs = t.row) : valP (cfW G T E) 33 [.agg cs] = some (.ret (.agg (listT t).row)) := by rw [h]; exact list_ok hE t
def pickT (n defs : Int) : Typ :=
  if arnd n (4 + 2 * defs) = 1 then .mk 1 ⟨0, 0, 0⟩ []
  else if arnd n (4 + 2 * defs) = 2 then listT Typ.z
  else if 4 ≤ arnd n (4 + 2 * defs) then (if arnd (n / 64) 5 = 1 then listT (ofT (idK (1 + (arnd n (4 + 2 * defs) - 4) / 2))) else ofT (idK (1 + (arnd n (4 + 2 * defs) - 4) / 2)))
  else Typ.z
theorem Tz_row : Typ.z.row = [.int .i64 0, .int .i64 0, .int .i64 0, .int .i64 0, .sl 5 []] := rfl
theorem Tk_row (k : Int) : (Typ.mk k ⟨0, 0, 0⟩ []).row = [.int .i64 k, .int .i64 0, .int .i64 0, .int .i64 0, .sl 5 []] := Typ.row_eq _
theorem pick_ok (hE : XOK E) (n defs : Int) (h0 : 0 ≤ n) (h1 : n < 9223372036854775808) (hd : 0 ≤ defs) (hd1 : defs < 100) : valP (cfW G T E) 27 [.int .i64 n, .int .i64 defs] = some (.ret (.agg (pickT n defs).row)) := by
  have hl := list_okc (G := G) hE Typ.z _ Tz_row.symm
  have hk0 := arnd_nonneg n (4 + 2 * defs) (by omega)
  have hk1 := arnd_lt n (4 + 2 * defs) (by omega)
  refine xrun 7 (m := m27) hE rfl rfl rfl rfl ?_
  unfold pickT
  by_cases c1 : arnd n (4 + 2 * defs) = 1
  · rw [if_pos c1]
    simp (maxSteps := 10000000) (disch := first | assumption | omega | (simp only [zy19, zy17, zy18, zy34, zy35, zy36, zy11, zy12, rsL] <;> omega) | with_reducible exact rowOK_nil _ _ | ((repeat' apply rowOK_put) <;> first | assumption | exact rowP_ok _ _ _ _ _ | omega) | (simp only [rsI]; done)) only [↓rsW, ↓rsd, rsu, rsX, zyB, Int.reduceEq, ↓reduceIte, zy0, zy1, zy2, zy3, zy4, zy5, zy6, zy7, zy8, zy9, zy10, zy11, zy12, zy13, zy14, zy15, zy16, Nat.reduceEqDiff, Nat.reduceBEq, Nat.reduceAdd, Nat.reduceMul, Nat.reduceSub, Int.reduceToNat, zy17, zy18, zy19, zy20, Nat.reduceLT, Nat.reduceLeDiff, zy21, zy22, zy23, zy24, zy25, zy26, Int.reduceAdd, Int.reduceMul, Int.reduceSub, Int.reduceNeg, Int.reduceDiv, Int.reduceMod, zy27, rsY, m27, around_ok hE, c1]
    rw [Tk_row]
  · rw [if_neg c1]
    by_cases c2 : arnd n (4 + 2 * defs) = 2
    · rw [if_pos c2]
      simp (maxSteps := 10000000) (disch := first | assumption | omega | (simp only [zy19, zy17, zy18, zy34, zy35, zy36, zy11, zy12, rsL] <;> omega) | with_reducible exact rowOK_nil _ _ | ((repeat' apply rowOK_put) <;> first | assumption | exact rowP_ok _ _ _ _ _ | omega) | (simp only [rsI]; done)) only [↓rsW, ↓rsd, rsu, rsX, zyB, Int.reduceEq, ↓reduceIte, zy0, zy1, zy2, zy3, zy4, zy5, zy6, zy7, zy8, zy9, zy10, zy11, zy12, zy13, zy14, zy15, zy16, Nat.reduceEqDiff, Nat.reduceBEq, Nat.reduceAdd, Nat.reduceMul, Nat.reduceSub, Int.reduceToNat, zy17, zy18, zy19, zy20, Nat.reduceLT, Nat.reduceLeDiff, zy21, zy22, zy23, zy24, zy25, zy26, Int.reduceAdd, Int.reduceMul, Int.reduceSub, Int.reduceNeg, Int.reduceDiv, Int.reduceMod, zy27, rsY, m27, around_ok hE, c2, hl]
    · rw [if_neg c2]
      by_cases c3 : 4 ≤ arnd n (4 + 2 * defs)
      · rw [if_pos c3]
        by_cases c4 : arnd (n / 64) 5 = 1
        · rw [if_pos c4]
          simp (maxSteps := 10000000) (disch := first | assumption | omega | (simp only [zy19, zy17, zy18, zy34, zy35, zy36, zy11, zy12, rsL] <;> omega) | with_reducible exact rowOK_nil _ _ | ((repeat' apply rowOK_put) <;> first | assumption | exact rowP_ok _ _ _ _ _ | omega) | (simp only [rsI]; done)) only [↓rsW, ↓rsd, rsu, rsX, zyB, Int.reduceEq, ↓reduceIte, zy0, zy1, zy2, zy3, zy4, zy5, zy6, zy7, zy8, zy9, zy10, zy11, zy12, zy13, zy14, zy15, zy16, Nat.reduceEqDiff, Nat.reduceBEq, Nat.reduceAdd, Nat.reduceMul, Nat.reduceSub, Int.reduceToNat, zy17, zy18, zy19, zy20, Nat.reduceLT, Nat.reduceLeDiff, zy21, zy22, zy23, zy24, zy25, zy26, Int.reduceAdd, Int.reduceMul, Int.reduceSub, Int.reduceNeg, Int.reduceDiv, Int.reduceMod, zy27, rsY, m27, around_ok hE, c1, c2, id_ok hE, of_ok hE, c4, list_ok hE]
        · rw [if_neg c4]
          simp (maxSteps := 10000000) (disch := first | assumption | omega | (simp only [zy19, zy17, zy18, zy34, zy35, zy36, zy11, zy12, rsL] <;> omega) | with_reducible exact rowOK_nil _ _ | ((repeat' apply rowOK_put) <;> first | assumption | exact rowP_ok _ _ _ _ _ | omega) | (simp only [rsI]; done)) only [↓rsW, ↓rsd, rsu, rsX, zyB, Int.reduceEq, ↓reduceIte, zy0, zy1, zy2, zy3, zy4, zy5, zy6, zy7, zy8, zy9, zy10, zy11, zy12, zy13, zy14, zy15, zy16, Nat.reduceEqDiff, Nat.reduceBEq, Nat.reduceAdd, Nat.reduceMul, Nat.reduceSub, Int.reduceToNat, zy17, zy18, zy19, zy20, Nat.reduceLT, Nat.reduceLeDiff, zy21, zy22, zy23, zy24, zy25, zy26, Int.reduceAdd, Int.reduceMul, Int.reduceSub, Int.reduceNeg, Int.reduceDiv, Int.reduceMod, zy27, rsY, m27, around_ok hE, c1, c2, id_ok hE, of_ok hE, c4, list_ok hE]
      · rw [if_neg c3]
        simp (maxSteps := 10000000) (disch := first | assumption | omega | (simp only [zy19, zy17, zy18, zy34, zy35, zy36, zy11, zy12, rsL] <;> omega) | with_reducible exact rowOK_nil _ _ | ((repeat' apply rowOK_put) <;> first | assumption | exact rowP_ok _ _ _ _ _ | omega) | (simp only [rsI]; done)) only [↓rsW, ↓rsd, rsu, rsX, zyB, Int.reduceEq, ↓reduceIte, zy0, zy1, zy2, zy3, zy4, zy5, zy6, zy7, zy8, zy9, zy10, zy11, zy12, zy13, zy14, zy15, zy16, Nat.reduceEqDiff, Nat.reduceBEq, Nat.reduceAdd, Nat.reduceMul, Nat.reduceSub, Int.reduceToNat, zy17, zy18, zy19, zy20, Nat.reduceLT, Nat.reduceLeDiff, zy21, zy22, zy23, zy24, zy25, zy26, Int.reduceAdd, Int.reduceMul, Int.reduceSub, Int.reduceNeg, Int.reduceDiv, Int.reduceMod, zy27, rsY, m27, around_ok hE, c1, c2]
        rw [Tz_row]
end Go.Proofs.Ytoccgkgdhobmfaa.Am.Ru
set_option maxRecDepth 100000
set_option linter.unusedSimpArgs false
set_option linter.unusedVariables false
namespace Go.Proofs.Ytoccgkgdhobmfaa.Am.Ru
open Go
variable {G : Nat → Option (List V)} {E : Nat → Option (CallFn → List V → Hp → Nat → Option Out)}
def tyNm (i : Nat) : List UInt8 := match i with | 0 => [80, 111, 105, 110, 116] | 1 => [83, 104, 97, 112, 101] | 2 => [83, 116, 97, 116, 101] | _ => [69, 118, 101, 110, 116]
def slNm (k : Nat) : List UInt8 := match k with | 0 => [120] | 1 => [121] | _ => [122]
def tyX (l : List Int) (i : Nat) : Int := atL l (1 + i) 65536
def tyC (l : List Int) (i : Nat) : Nat := (1 + tyX l i / 2 % 3).toNat
def tyM (l : List Int) : Nat := (1 + atL l 0 4).toNat
def tyN (l : List Int) : Nat → Nat
  | 0 => tyM l + 1
  | i + 1 => tyN l i + tyC l i
def tySlot (l : List Int) (i k : Nat) : Slt := ⟨idK ((tyN l i + k : Nat) : Int), slNm k, pickT (atL l (5 + 3 * (i : Int) + (k : Int)) 65536) i, 0, 0⟩
def tySlots (l : List Int) (i : Nat) : Nat → List Slt
  | 0 => []
  | k + 1 => tySlots l i k ++ [tySlot l i k]
def tyDef (l : List Int) (i : Nat) : Dfn := ⟨idK (1 + (i : Int)), tyX l i % 2, idK 0, tyNm i, tySlots l i (tyC l i), Typ.z, Exr.z, 0, []⟩
def tyDefs (l : List Int) : Nat → List Dfn
  | 0 => []
  | i + 1 => tyDefs l i ++ [tyDef l i]
def tyIds : Nat → List Idn
  | 0 => []
  | i + 1 => tyIds i ++ [idK (1 + (i : Int))]
def core : List UInt8 := [99, 111, 114, 101]
def typesP (l : List Int) : Prg := ⟨[⟨idK 0, core, [], tyIds (tyM l)⟩], tyDefs l (tyM l)⟩
theorem tyX_b (l : List Int) (i : Nat) : 0 ≤ tyX l i ∧ tyX l i < 65536 := ⟨atL_nonneg _ _ _ (by omega), atL_lt _ _ _ (by omega)⟩
theorem tyC_b (l : List Int) (i : Nat) : 1 ≤ tyC l i ∧ tyC l i ≤ 3 := by have := tyX_b l i; unfold tyC; omega
theorem tyC_i (l : List Int) (i : Nat) : 1 + tyX l i / 2 % 3 = (tyC l i : Int) := by have := tyX_b l i; unfold tyC; omega
theorem tyM_b (l : List Int) : 1 ≤ tyM l ∧ tyM l ≤ 4 := by have h0 := atL_nonneg l 0 4 (by omega); have h1 := atL_lt l 0 4 (by omega); unfold tyM; omega
theorem tyM_i (l : List Int) : 1 + atL l 0 4 = (tyM l : Int) := by have h0 := atL_nonneg l 0 4 (by omega); unfold tyM; omega
theorem tyN_b (l : List Int) (i : Nat) : tyN l i ≤ 5 + 3 * i := by
  induction i with
  | zero => have := tyM_b l; simp only [tyN]; omega
  | succ i ih => have := tyC_b l i; simp only [tyN]; omega
theorem tySlots_len (l : List Int) (i k : Nat) : (tySlots l i k).length = k := by
  induction k with
  | zero => rfl
  | succ k ih => simp [tySlots, ih]
theorem tyDefs_len (l : List Int) (i : Nat) : (tyDefs l i).length = i := by
  induction i with
  | zero => rfl
  | succ i ih => simp [tyDefs, ih]
theorem tyIds_len (i : Nat) : (tyIds i).length = i := by
  induction i with
  | zero => rfl
  | succ i ih => simp [tyIds, ih]
theorem nm_get (i : Nat) (h : i < 4) : ([[.str [80, 111, 105, 110, 116]], [.str [83, 104, 97, 112, 101]], [.str [83, 116, 97, 116, 101]], [.str [69, 118, 101, 110, 116]]] : List (List V))[i]? = some [.str (tyNm i)] := by
  match i, h with
  | 0, _ => rfl
  | 1, _ => rfl
  | 2, _ => rfl
  | 3, _ => rfl
theorem sn_get (i : Nat) (h : i < 3) : ([[.str [120]], [.str [121]], [.str [122]]] : List (List V))[i]? = some [.str (slNm i)] := by
  match i, h with
  | 0, _ => rfl
  | 1, _ => rfl
  | 2, _ => rfl
theorem rowOK_rp {o : Hp} {e j e' j' id : Nat} {xs ys zs : List (List V)} (h : RowOK o e j xs) (h1 : j ≠ j') (h2 : j ≠ id) : RowOK (rowP o e' j' id ys zs) e j xs := by
  rcases h with h | h
  · exact .inl h
  · right; rw [rowP_ne _ _ _ _ _ _ h1 h2]; exact h
theorem apart_rowU {e j id k : Nat} {ys zs : List (List V)} (h1 : j ≠ k) (h2 : id ≠ k) : apart (ids (rowU e j id ys zs)) [k] = true := by
  unfold rowU
  split
  · split
    · simp [ids, apart]
    · simp [ids, apart, h2]
  · simp [ids, apart, h1, h2]
theorem tySlots_fold (l : List Int) (i k : Nat) : Slt.rows (tySlots l i k) ++ [([.int .i64 (idK ((tyN l i + k : Nat) : Int)).shop, .int .i64 (idK ((tyN l i + k : Nat) : Int)).seq, .int .i64 (idK ((tyN l i + k : Nat) : Int)).index, .str (slNm k), .int .i64 (pickT (atL l (5 + 3 * (i : Int) + (k : Int)) 65536) i).kind, .int .i64 (pickT (atL l (5 + 3 * (i : Int) + (k : Int)) 65536) i).ref.shop, .int .i64 (pickT (atL l (5 + 3 * (i : Int) + (k : Int)) 65536) i).ref.seq, .int .i64 (pickT (atL l (5 + 3 * (i : Int) + (k : Int)) 65536) i).ref.index, .sl 5 (Typ.rows (pickT (atL l (5 + 3 * (i : Int) + (k : Int)) 65536) i).kids), .int .i64 0, .int .i64 0] : List V)] = Slt.rows (tySlots l i (k + 1)) := by
  rw [tySlots, ← Slt.rows_snoc, Slt.row_eq]; rfl
theorem tyDefs_fold (l : List Int) (i : Nat) : Dfn.rows (tyDefs l i) ++ [([.int .i64 (idK (1 + (i : Int))).shop, .int .i64 (idK (1 + (i : Int))).seq, .int .i64 (idK (1 + (i : Int))).index, .int .i64 (tyX l i % 2), .int .i64 (idK 0).shop, .int .i64 (idK 0).seq, .int .i64 (idK 0).index, .str (tyNm i), .sl 11 (Slt.rows (tySlots l i (tyC l i))), .int .i64 0, .int .i64 0, .int .i64 0, .int .i64 0, .sl 5 [], .int .i64 0, .int .i64 0, .int .i64 0, .int .i64 0, .int .i64 0, .int .i64 0, .int .i64 0, .int .i64 0, .int .i64 0, .int .i64 0, .int .i64 0, .int .i64 0, .sl 5 [], .sl 15 [], .sl 1 [], .int .i64 0, .sl 1 []] : List V)] = Dfn.rows (tyDefs l (i + 1)) := by
  rw [tyDefs, ← Dfn.rows_snoc]; rfl
theorem tyIds_fold (i : Nat) : Idn.rows (tyIds i) ++ [([.int .i64 (idK (1 + (i : Int))).shop, .int .i64 (idK (1 + (i : Int))).seq, .int .i64 (idK (1 + (i : Int))).index] : List V)] = Idn.rows (tyIds (i + 1)) := by
  rw [tyIds, ← Idn.rows_snoc]; rfl
set_option maxHeartbeats 8000000 in
theorem types_ok (hE : XOK E) (l : List Int) (hl : okI l) : valP (cfW G T E) 26 [.sl 1 (rowI l)] = some (.ret (.agg (typesP l).row)) := by
  have hM := tyM_b l
  have hMi := tyM_i l
  generalize hR : typesP l = R
  refine xrun 11 (m := m26) hE rfl rfl rfl rfl ?_
  simp (maxSteps := 10000000) (disch := first | assumption | omega | (simp only [zy19, zy17, zy18, zy34, zy35, zy36, zy11, zy12, rsL] <;> omega) | with_reducible exact rowOK_nil _ _ | ((repeat' apply rowOK_put) <;> first | assumption | exact rowP_ok _ _ _ _ _ | omega) | (simp only [rsI]; done)) only [↓rsW, ↓rsd, rsu, rsX, zyB, Int.reduceEq, ↓reduceIte, zy0, zy1, zy2, zy3, zy4, zy5, zy6, zy7, zy8, zy9, zy10, zy11, zy12, zy13, zy14, zy15, zy16, Nat.reduceEqDiff, Nat.reduceBEq, Nat.reduceAdd, Nat.reduceMul, Nat.reduceSub, Int.reduceToNat, zy17, zy18, zy19, zy20, Nat.reduceLT, Nat.reduceLeDiff, zy21, zy22, zy23, zy24, zy25, zy26, Int.reduceAdd, Int.reduceMul, Int.reduceSub, Int.reduceNeg, Int.reduceDiv, Int.reduceMod, zy27, rsY, m26, at_ok hE, id_ok hE, hMi]
  refine go_loop2 11 (fun n s => ∃ (i jm jd : Nat), n = tyM l - i ∧ i ≤ tyM l ∧ 3 ≤ s.N ∧ (i = 0 ∧ s.N = 3 ∧ jm = 1000 ∧ jd = 1001 ∨ 3 ≤ jm ∧ jm < s.N ∧ 3 ≤ jd ∧ jd < s.N ∧ jm ≠ jd) ∧ s.e 0 = .sl 1 (rowI l) ∧ s.e 2 = .ptr 0 0 ∧ s.e 3 = .ptr 2 0 ∧ s.e 4 = .int .i64 (tyM l : Nat) ∧ s.e 5 = .int .i64 (tyN l i : Nat) ∧ s.e 6 = .int .i64 (i : Nat) ∧
    s.o 0 = .box [.nils 6, .nils 31] ∧ s.o 1 = .vec 6 [[.int .i64 (idK 0).shop, .int .i64 (idK 0).seq, .int .i64 (idK 0).index, .str [99, 111, 114, 101], .nils 3, rowV 3 jm (Idn.rows (tyIds i))]] ∧ s.o 2 = .box [.vsl 1 0 1, rowV 31 jd (Dfn.rows (tyDefs l i))] ∧ RowOK s.o 3 jm (Idn.rows (tyIds i)) ∧ RowOK s.o 31 jd (Dfn.rows (tyDefs l i))) (tyM l) ?_ ?_
  · refine ⟨0, 1000, 1001, rfl, by omega, Nat.le_refl _, .inl ⟨rfl, rfl, rfl, rfl⟩, ?_⟩
    simp (maxSteps := 10000000) (disch := first | assumption | omega | (simp only [zy19, zy17, zy18, zy34, zy35, zy36, zy11, zy12, rsL] <;> omega) | with_reducible exact rowOK_nil _ _ | ((repeat' apply rowOK_put) <;> first | assumption | exact rowP_ok _ _ _ _ _ | omega) | (simp only [rsI]; done)) only [↓rsW, ↓rsd, rsu, rsX, zyB, Int.reduceEq, ↓reduceIte, zy0, zy1, zy2, zy3, zy4, zy5, zy6, zy7, zy8, zy9, zy10, zy11, zy12, zy13, zy14, zy15, zy16, Nat.reduceEqDiff, Nat.reduceBEq, Nat.reduceAdd, Nat.reduceMul, Nat.reduceSub, Int.reduceToNat, zy17, zy18, zy19, zy20, Nat.reduceLT, Nat.reduceLeDiff, zy21, zy22, zy23, zy24, zy25, zy26, Int.reduceAdd, Int.reduceMul, Int.reduceSub, Int.reduceNeg, Int.reduceDiv, Int.reduceMod, zy27, rsY]
    exact ⟨by congr 1; simp only [tyN]; omega, rfl, rfl, rfl, .inl rfl, .inl rfl⟩
  · rintro n e o M ⟨i, jm, jd, hn, hi, hN, hj, e0, e2, e3, e4, e5, e6, o0, o1, o2, r1, r2⟩
    simp only at hN hj e0 e2 e3 e4 e5 e6 o0 o1 o2 r1 r2
    have hj' : ¬ (jm = 0) ∧ ¬ (jm = 1) ∧ ¬ (jm = 2) ∧ ¬ (jd = 0) ∧ ¬ (jd = 1) ∧ ¬ (jd = 2) ∧ ¬ (jm = jd) := by
      rcases hj with h | h
      · omega
      · omega
    obtain ⟨q1, q2, q3, q4, q5, q6, q7⟩ := hj'
    have hNb := tyN_b l i
    by_cases hlt : i < tyM l
    · have hi4 : i < 4 := by omega
      have hx := tyX_b l i
      have hxd : atL l (1 + (i : Int)) 65536 = tyX l i := rfl
      have hC := tyC_b l i
      have hCi := tyC_i l i
      have hnm := nm_get i hi4
      simp (maxSteps := 10000000) (disch := first | assumption | omega | (simp only [zy19, zy17, zy18, zy34, zy35, zy36, zy11, zy12, rsL] <;> omega) | with_reducible exact rowOK_nil _ _ | ((repeat' apply rowOK_put) <;> first | assumption | exact rowP_ok _ _ _ _ _ | omega) | (simp only [rsI]; done)) only [↓rsW, ↓rsd, rsu, rsX, zyB, Int.reduceEq, ↓reduceIte, zy0, zy1, zy2, zy3, zy4, zy5, zy6, zy7, zy8, zy9, zy10, zy11, zy12, zy13, zy14, zy15, zy16, Nat.reduceEqDiff, Nat.reduceBEq, Nat.reduceAdd, Nat.reduceMul, Nat.reduceSub, Int.reduceToNat, zy17, zy18, zy19, zy20, Nat.reduceLT, Nat.reduceLeDiff, zy21, zy22, zy23, zy24, zy25, zy26, Int.reduceAdd, Int.reduceMul, Int.reduceSub, Int.reduceNeg, Int.reduceDiv, Int.reduceMod, zy27, rsY, e0, e2, e3, e4, e5, e6, o0, o1, o2, at_ok hE, id_ok hE, hxd, hnm, hCi]
      refine go_loop2 11 (fun n' s => ∃ (k js : Nat), n' = tyC l i - k ∧ k ≤ tyC l i ∧ s.N = M + 2 + 2 * k ∧ (k = 0 ∧ js = M + 1000 ∨ M + 2 ≤ js ∧ js < s.N) ∧ s.e 0 = .sl 1 (rowI l) ∧ s.e 2 = .ptr 0 0 ∧ s.e 3 = .ptr 2 0 ∧ s.e 4 = .int .i64 (tyM l : Nat) ∧ s.e 5 = .int .i64 ((tyN l i + k : Nat) : Int) ∧ s.e 6 = .int .i64 (i : Nat) ∧ s.e 8 = .ptr (M + 1) 0 ∧ s.e 9 = .int .i64 (tyC l i : Nat) ∧ s.e 10 = .int .i64 (k : Nat) ∧
        s.o 0 = .box [.nils 6, .nils 31] ∧ s.o 1 = .vec 6 [[.int .i64 (idK 0).shop, .int .i64 (idK 0).seq, .int .i64 (idK 0).index, .str [99, 111, 114, 101], .nils 3, rowV 3 jm (Idn.rows (tyIds i))]] ∧ s.o 2 = .box [.vsl 1 0 1, rowV 31 jd (Dfn.rows (tyDefs l i))] ∧ RowOK s.o 3 jm (Idn.rows (tyIds i)) ∧ RowOK s.o 31 jd (Dfn.rows (tyDefs l i)) ∧
        s.o (M + 1) = .box [.int .i64 (idK (1 + (i : Int))).shop, .int .i64 (idK (1 + (i : Int))).seq, .int .i64 (idK (1 + (i : Int))).index, .int .i64 (tyX l i % 2), .int .i64 (idK 0).shop, .int .i64 (idK 0).seq, .int .i64 (idK 0).index, .str (tyNm i), rowV 11 js (Slt.rows (tySlots l i k)), .int .i64 0, .int .i64 0, .int .i64 0, .int .i64 0, .nils 5, .int .i64 0, .int .i64 0, .int .i64 0, .int .i64 0, .int .i64 0, .int .i64 0, .int .i64 0, .int .i64 0, .int .i64 0, .int .i64 0, .int .i64 0, .int .i64 0, .nils 5, .nils 15, .nils 1, .int .i64 0, .nils 1] ∧
        RowOK s.o 11 js (Slt.rows (tySlots l i k))) (tyC l i) ?_ ?_
      · refine ⟨0, M + 1000, rfl, by omega, rfl, .inl ⟨rfl, rfl⟩, ?_⟩
        simp (maxSteps := 10000000) (disch := first | assumption | omega | (simp only [zy19, zy17, zy18, zy34, zy35, zy36, zy11, zy12, rsL] <;> omega) | with_reducible exact rowOK_nil _ _ | ((repeat' apply rowOK_put) <;> first | assumption | exact rowP_ok _ _ _ _ _ | omega) | (simp only [rsI]; done)) only [↓rsW, ↓rsd, rsu, rsX, zyB, Int.reduceEq, ↓reduceIte, zy0, zy1, zy2, zy3, zy4, zy5, zy6, zy7, zy8, zy9, zy10, zy11, zy12, zy13, zy14, zy15, zy16, Nat.reduceEqDiff, Nat.reduceBEq, Nat.reduceAdd, Nat.reduceMul, Nat.reduceSub, Int.reduceToNat, zy17, zy18, zy19, zy20, Nat.reduceLT, Nat.reduceLeDiff, zy21, zy22, zy23, zy24, zy25, zy26, Int.reduceAdd, Int.reduceMul, Int.reduceSub, Int.reduceNeg, Int.reduceDiv, Int.reduceMod, zy27, rsY, e0, e2, e3, e4, e5, e6, o0, o1, o2]
        have hjM : jm ≠ M ∧ jm ≠ M + 1 ∧ jd ≠ M ∧ jd ≠ M + 1 := by
          rcases hj with h | h
          · omega
          · omega
        have p1 : ∀ {e j : Nat} {xs : List (List V)} (a b c : AObj), RowOK o e j xs → j ≠ M → j ≠ M + 1 → RowOK (hput (hput (hput o M a) (M + 1) b) (M + 1) c) e j xs := fun a b c h h1 h2 => rowOK_put (rowOK_put (rowOK_put h h1) h2) h2
        exact ⟨rfl, p1 _ _ _ r1 hjM.1 hjM.2.1, p1 _ _ _ r2 hjM.2.2.1 hjM.2.2.2, rfl, .inl rfl⟩
      · clear e0 e2 e3 e4 e5 e6 o0 o1 o2 r1 r2
        rintro n' e o K ⟨k, js, hn', hk, hK, hjs, e0, e2, e3, e4, e5, e6, e8, e9, e10, o0, o1, o2, r1, r2, oM, r3⟩
        simp only at hK hjs e0 e2 e3 e4 e5 e6 e8 e9 e10 o0 o1 o2 r1 r2 oM r3
        have hjs' : ¬ (js = 0) ∧ ¬ (js = 1) ∧ ¬ (js = 2) ∧ ¬ (js = M + 1) ∧ ¬ (js = jm) ∧ ¬ (js = jd) ∧ ¬ (jm = M + 1) ∧ ¬ (jd = M + 1) := by
          rcases hjs with h | h
          · rcases hj with h2 | h2
            · omega
            · omega
          · rcases hj with h2 | h2
            · omega
            · omega
        obtain ⟨w1, w2, w3, w4, w5, w6, w7, w8⟩ := hjs'
        by_cases hkc : k < tyC l i
        · have hk3 : k < 3 := by omega
          have hsn := sn_get k hk3
          have hA0 := atL_nonneg l (5 + 3 * (i : Int) + (k : Int)) 65536 (by omega)
          have hA1 := atL_lt l (5 + 3 * (i : Int) + (k : Int)) 65536 (by omega)
          have hsl := tySlots_len l i k
          have hdl := tyDefs_len l i
          have hil := tyIds_len i
          have hfold := tySlots_fold l i k
          have hpk := pick_ok (G := G) hE (atL l (5 + 3 * (i : Int) + (k : Int)) 65536) (i : Int) hA0 (by omega) (by omega) (by omega)
          simp (maxSteps := 10000000) (disch := first | assumption | omega | (simp only [zy19, zy17, zy18, zy34, zy35, zy36, zy11, zy12, rsL] <;> omega) | with_reducible exact rowOK_nil _ _ | ((repeat' apply rowOK_put) <;> first | assumption | exact rowP_ok _ _ _ _ _ | omega) | (simp only [rsI]; done)) only [↓rsW, ↓rsd, rsu, rsX, zyB, Int.reduceEq, ↓reduceIte, zy0, zy1, zy2, zy3, zy4, zy5, zy6, zy7, zy8, zy9, zy10, zy11, zy12, zy13, zy14, zy15, zy16, Nat.reduceEqDiff, Nat.reduceBEq, Nat.reduceAdd, Nat.reduceMul, Nat.reduceSub, Int.reduceToNat, zy17, zy18, zy19, zy20, Nat.reduceLT, Nat.reduceLeDiff, zy21, zy22, zy23, zy24, zy25, zy26, Int.reduceAdd, Int.reduceMul, Int.reduceSub, Int.reduceNeg, Int.reduceDiv, Int.reduceMod, zy27, rsY, e0, e2, e3, e4, e5, e6, e8, e9, e10, o0, o1, o2, oM, at_ok hE, id_ok hE, hsn, hpk, hfold]
          have hjK : jm ≠ K ∧ jm ≠ K + 1 ∧ jd ≠ K ∧ jd ≠ K + 1 := by
            rcases hj with h | h
            · omega
            · omega
          refine ⟨tyC l i - (k + 1), by omega, k + 1, K + 1, rfl, by omega, by omega, .inr ⟨by omega, by omega⟩, rfl, rfl, rowOK_put (rowOK_rp (rowOK_put r1 hjK.1) (Ne.symm w5) hjK.2.1) w7, rowOK_put (rowOK_rp (rowOK_put r2 hjK.2.2.1) (Ne.symm w6) hjK.2.2.2) w8, rfl, ?_⟩
          rw [← hfold]; exact rowOK_put (rowP_ok _ _ _ _ _) (by omega)
        · have hk' : k = tyC l i := by omega
          subst hk'
          have hsl := tySlots_len l i (tyC l i)
          have hdl := tyDefs_len l i
          have hil := tyIds_len i
          have hne : (Slt.rows (tySlots l i (tyC l i)) = []) = False := by
            refine eq_false fun h => ?_
            have h2 := congrArg List.length h
            rw [Slt.rows_len, hsl] at h2
            exact absurd h2 (by simp only [List.length_nil]; omega)
          have hdf := tyDefs_fold l i
          have hif := tyIds_fold i
          simp (maxSteps := 10000000) (disch := first | assumption | omega | (simp only [zy19, zy17, zy18, zy34, zy35, zy36, zy11, zy12, rsL] <;> omega) | with_reducible exact rowOK_nil _ _ | ((repeat' first | apply rowOK_put | apply rowOK_rp) <;> first | assumption | exact rowP_ok _ _ _ _ _ | omega) | (simp only [rsI]; done)) only [↓rsW, ↓rsd, rsu, rsX, zyB, Int.reduceEq, ↓reduceIte, zy0, zy1, zy2, zy3, zy4, zy5, zy6, zy7, zy8, zy9, zy10, zy11, zy12, zy13, zy14, zy15, zy16, Nat.reduceEqDiff, Nat.reduceBEq, Nat.reduceAdd, Nat.reduceMul, Nat.reduceSub, Int.reduceToNat, zy17, zy18, zy19, zy20, Nat.reduceLT, Nat.reduceLeDiff, zy21, zy22, zy23, zy24, zy25, zy26, Int.reduceAdd, Int.reduceMul, Int.reduceSub, Int.reduceNeg, Int.reduceDiv, Int.reduceMod, zy27, rsY, e0, e2, e3, e4, e5, e6, e8, e9, e10, o0, o1, o2, oM, at_ok hE, id_ok hE, hne, if_false, hdf, hif]
          have hjK : jm ≠ js ∧ jm ≠ K ∧ jm ≠ K + 1 ∧ jd ≠ js ∧ jd ≠ K ∧ jd ≠ K + 1 := by
            rcases hj with h | h
            · omega
            · omega
          refine ⟨apart_rowU q3 (by omega), tyM l - (i + 1), by omega, i + 1, K + 1, K, rfl, by omega, by omega, .inr ⟨by omega, by omega, by omega, by omega, by omega⟩, rfl, rfl, rfl, rfl, ?_, ?_⟩
          · rw [← hif]; exact rowOK_put (rowP_ok _ _ _ _ _) (by omega)
          · rw [← hdf]; exact rowOK_put (rowOK_rp (rowOK_put (rowP_ok _ _ _ _ _) (by omega)) (by omega) (by omega)) (by omega)
    · have hi' : i = tyM l := by omega
      subst hi'
      simp (maxSteps := 10000000) (disch := first | assumption | omega | (simp only [zy19, zy17, zy18, zy34, zy35, zy36, zy11, zy12, rsL] <;> omega) | with_reducible exact rowOK_nil _ _ | ((repeat' apply rowOK_put) <;> first | assumption | exact rowP_ok _ _ _ _ _ | omega) | (simp only [rsI]; done)) only [↓rsW, ↓rsd, rsu, rsX, zyB, Int.reduceEq, ↓reduceIte, zy0, zy1, zy2, zy3, zy4, zy5, zy6, zy7, zy8, zy9, zy10, zy11, zy12, zy13, zy14, zy15, zy16, Nat.reduceEqDiff, Nat.reduceBEq, Nat.reduceAdd, Nat.reduceMul, Nat.reduceSub, Int.reduceToNat, zy17, zy18, zy19, zy20, Nat.reduceLT, Nat.reduceLeDiff, zy21, zy22, zy23, zy24, zy25, zy26, Int.reduceAdd, Int.reduceMul, Int.reduceSub, Int.reduceNeg, Int.reduceDiv, Int.reduceMod, zy27, rsY, e0, e2, e3, e4, e5, e6, o0, o1, o2]
      rw [← hR]; rfl
end Go.Proofs.Ytoccgkgdhobmfaa.Am.Ru
set_option maxRecDepth 100000
set_option linter.unusedSimpArgs false
set_option linter.unusedVariables false
namespace Go.Proofs.Ytoccgkgdhobmfaa.Am.Ru
open Go
variable {G : Nat → Option (List V)} {E : Nat → Option (CallFn → List V → Hp → Nat → Option Out)}
def numV (n : Int) : Val := .mk 0 n []
theorem num_ok (hE : XOK E) (n : Int) : valP (cfW G T E) 46 [.int .i64 n] = some (.ret (.agg (numV n).row)) := by
  refine xrun 2 (m := m46) hE rfl rfl rfl rfl ?_
  simp (maxSteps := 10000000) (disch := first | assumption | omega | (simp only [zy19, zy17, zy18, zy34, zy35, zy36, zy11, zy12, rsL] <;> omega) | with_reducible exact rowOK_nil _ _ | ((repeat' apply rowOK_put) <;> first | assumption | exact rowP_ok _ _ _ _ _ | omega) | (simp only [rsI]; done)) only [↓rsW, ↓rsd, rsu, rsX, zyB, Int.reduceEq, ↓reduceIte, zy0, zy1, zy2, zy3, zy4, zy5, zy6, zy7, zy8, zy9, zy10, zy11, zy12, zy13, zy14, zy15, zy16, Nat.reduceEqDiff, Nat.reduceBEq, Nat.reduceAdd, Nat.reduceMul, Nat.reduceSub, Int.reduceToNat, zy17, zy18, zy19, zy20, Nat.reduceLT, Nat.reduceLeDiff, zy21, zy22, zy23, zy24, zy25, zy26, Int.reduceAdd, Int.reduceMul, Int.reduceSub, Int.reduceNeg, Int.reduceDiv, Int.reduceMod, zy27, rsY, m46]
  rw [Val.row_eq]; rfl
theorem veq_ok (hE : XOK E) (a b : Val) (ha : okV' a) (hb : okV' b) : valP (cfW G T E) 55 [.agg a.row, .agg b.row] = some (.ret (.bool (decide (cmpV a b = 0)))) := by
  have hc := rcompare_ok (G := G) hE a b ha hb
  refine xrun 4 (m := m55) hE rfl rfl rfl rfl ?_
  by_cases h : cmpV a b = 0
  · simp (maxSteps := 10000000) (disch := first | assumption | omega | (simp only [zy19, zy17, zy18, zy34, zy35, zy36, zy11, zy12, rsL] <;> omega) | with_reducible exact rowOK_nil _ _ | ((repeat' apply rowOK_put) <;> first | assumption | exact rowP_ok _ _ _ _ _ | omega) | (simp only [rsI]; done)) only [↓rsW, ↓rsd, rsu, rsX, zyB, Int.reduceEq, ↓reduceIte, zy0, zy1, zy2, zy3, zy4, zy5, zy6, zy7, zy8, zy9, zy10, zy11, zy12, zy13, zy14, zy15, zy16, Nat.reduceEqDiff, Nat.reduceBEq, Nat.reduceAdd, Nat.reduceMul, Nat.reduceSub, Int.reduceToNat, zy17, zy18, zy19, zy20, Nat.reduceLT, Nat.reduceLeDiff, zy21, zy22, zy23, zy24, zy25, zy26, Int.reduceAdd, Int.reduceMul, Int.reduceSub, Int.reduceNeg, Int.reduceDiv, Int.reduceMod, zy27, rsY, m55, hc, h]
  · simp (maxSteps := 10000000) (disch := first | assumption | omega | (simp only [zy19, zy17, zy18, zy34, zy35, zy36, zy11, zy12, rsL] <;> omega) | with_reducible exact rowOK_nil _ _ | ((repeat' apply rowOK_put) <;> first | assumption | exact rowP_ok _ _ _ _ _ | omega) | (simp only [rsI]; done)) only [↓rsW, ↓rsd, rsu, rsX, zyB, Int.reduceEq, ↓reduceIte, zy0, zy1, zy2, zy3, zy4, zy5, zy6, zy7, zy8, zy9, zy10, zy11, zy12, zy13, zy14, zy15, zy16, Nat.reduceEqDiff, Nat.reduceBEq, Nat.reduceAdd, Nat.reduceMul, Nat.reduceSub, Int.reduceToNat, zy17, zy18, zy19, zy20, Nat.reduceLT, Nat.reduceLeDiff, zy21, zy22, zy23, zy24, zy25, zy26, Int.reduceAdd, Int.reduceMul, Int.reduceSub, Int.reduceNeg, Int.reduceDiv, Int.reduceMod, zy27, rsY, m55, hc, h]
def exD1 : Dfn := ⟨idK 1, 0, Idn.z, [80, 111, 105, 110, 116], [⟨idK 3, [120], Typ.z, 0, 0⟩, ⟨idK 4, [121], Typ.z, 0, 0⟩], Typ.z, Exr.z, 0, []⟩
def exD2 : Dfn := ⟨idK 2, 1, Idn.z, [83, 104, 97, 112, 101], [⟨idK 5, [68, 111, 116], Typ.z, 0, 0⟩, ⟨idK 6, [66, 111, 120], ofT (idK 1), 0, 0⟩], Typ.z, Exr.z, 0, []⟩
def exP : Prg := ⟨[], [exD1, exD2]⟩
set_option maxHeartbeats 4000000 in
theorem example_ok (hE : XOK E) : valP (cfW G T E) 91 [] = some (.ret (.agg exP.row)) := by
  refine xrun 3 (m := m91) hE rfl rfl rfl rfl ?_
  simp (maxSteps := 10000000) (disch := first | assumption | omega | (simp only [zy19, zy17, zy18, zy34, zy35, zy36, zy11, zy12, rsL] <;> omega) | with_reducible exact rowOK_nil _ _ | ((repeat' apply rowOK_put) <;> first | assumption | exact rowP_ok _ _ _ _ _ | omega) | (simp only [rsI]; done)) only [↓rsW, ↓rsd, rsu, rsX, zyB, Int.reduceEq, ↓reduceIte, zy0, zy1, zy2, zy3, zy4, zy5, zy6, zy7, zy8, zy9, zy10, zy11, zy12, zy13, zy14, zy15, zy16, Nat.reduceEqDiff, Nat.reduceBEq, Nat.reduceAdd, Nat.reduceMul, Nat.reduceSub, Int.reduceToNat, zy17, zy18, zy19, zy20, Nat.reduceLT, Nat.reduceLeDiff, zy21, zy22, zy23, zy24, zy25, zy26, Int.reduceAdd, Int.reduceMul, Int.reduceSub, Int.reduceNeg, Int.reduceDiv, Int.reduceMod, zy27, rsY, m91, id_ok hE, of_ok hE]
  rfl
def zerosV : Val := .mk 2 0 [numV 0, numV 0]
def boxV : Val := .mk 3 1 [.mk 2 0 [numV 1, numV (-2)]]
def wrongV : Val := .mk 3 1 [numV 1]
def listV : Val := .mk 4 0 [numV 3, numV 0]
def nineV : Val := .mk 4 0 [numV 9]
def onesV : Val := .mk 4 0 [numV 1, numV 1]
def fiveV : Val := .mk 4 0 [numV 5]
def boolV : Val := .mk 1 1 []
def dotV : Val := .mk 3 0 [numV 0]
theorem okT_of (i : Idn) : okT (ofT i) := by simp [okT, okTs, ofT]
theorem exP_ok : okDs exP.defs := by
  refine ⟨by decide, fun d hd => ?_⟩
  simp only [exP, List.mem_cons, List.not_mem_nil, or_false] at hd
  rcases hd with rfl | rfl
  · refine ⟨by decide, fun s hs => ?_⟩
    simp only [exD1, List.mem_cons, List.not_mem_nil, or_false] at hs
    rcases hs with rfl | rfl
    · exact okT_z
    · exact okT_z
  · refine ⟨by decide, fun s hs => ?_⟩
    simp only [exD2, List.mem_cons, List.not_mem_nil, or_false] at hs
    rcases hs with rfl | rfl
    · exact okT_z
    · exact okT_of _
theorem okV_c : okV' zerosV ∧ okV' boxV ∧ okV' wrongV ∧ okV' listV ∧ okV' nineV ∧ okV' onesV ∧ okV' fiveV ∧ okV' boolV ∧ okV' dotV ∧ ∀ n, okV' (numV n) := by
  simp [okV', okVs, zerosV, boxV, wrongV, listV, nineV, onesV, fiveV, boolV, dotV, numV]
theorem rgV_c : rgV boxV ∧ rgV listV ∧ rgV fiveV := by
  simp [rgV, rgVs, boxV, listV, fiveV, numV]
theorem z1 : zeroV exP.defs (ofT (idK 1)) = ⟨zerosV, 0, 253⟩ := by rfl
theorem z2 : zeroV exP.defs (ofT (idK 2)) = ⟨dotV, 0, 254⟩ := by rfl
theorem e1 : encV fiveV = [129, 4, 128, 129, 1, 128, 129, 5, 128] := by decide
theorem d1 : decT (decV [129, 4, 128, 129, 1, 128, 129, 5, 128]) = .tup [.agg fiveV.row, .int .i64 9, .int .i64 0] := by rfl
set_option maxHeartbeats 8000000 in
theorem lives_ok (hE : XOK E) : valP (cfW G T E) 42 [] = some (.ret (.bool true)) := by
  have hz1 : valP (cfW G T E) 53 [.agg exP.row, .agg (ofT (idK 1)).row] = some (.ret (.tup [.agg zerosV.row, .int .i64 0])) := by have h := zero_ok (G := G) hE exP exP_ok (ofT (idK 1)) (okT_of _); rw [z1] at h; exact h
  have hz2 : valP (cfW G T E) 53 [.agg exP.row, .agg (ofT (idK 2)).row] = some (.ret (.tup [.agg dotV.row, .int .i64 0])) := by have h := zero_ok (G := G) hE exP exP_ok (ofT (idK 2)) (okT_of _); rw [z2] at h; exact h
  have he : valP (cfW G T E) 57 [.agg [V.int .i64 4, .int .i64 0, .sl 3 [(numV 5).row]]] = some (.ret (.own 1 (bytesV [129, 4, 128, 129, 1, 128, 129, 5, 128]))) := by have h := encode_ok (G := G) hE fiveV okV_c.2.2.2.2.2.2.1 rgV_c.2.2 (by decide); rw [e1] at h; exact h
  have hd : valP (cfW G T E) 59 [.sl 1 (bytesV [129, 4, 128, 129, 1, 128, 129, 5, 128])] = some (.ret (.tup [.agg fiveV.row, .int .i64 9, .int .i64 0])) := by have h := decode_ok (G := G) hE [129, 4, 128, 129, 1, 128, 129, 5, 128] (by decide); rw [d1] at h; exact h
  have hf : valP (cfW G T E) 40 [.agg exP.row, .agg (idK 2).row] = some (.ret (.tup [.agg exD2.row, .bool true])) := def_ok (G := G) hE exP (idK 2) (by decide)
  have hv1 : valP (cfW G T E) 36 [.agg exP.row, .agg (ofT (idK 2)).row] = some (.ret (.bool true)) := valid_ok (G := G) hE exP (ofT (idK 2)) (by decide) (okT_of _)
  have hv2 : valP (cfW G T E) 36 [.agg exP.row, .agg (ofT (idK 3)).row] = some (.ret (.bool false)) := valid_ok (G := G) hE exP (ofT (idK 3)) (by decide) (okT_of _)
  have hs1 : valP (cfW G T E) 38 [.agg (ofT (idK 2)).row, .agg (ofT (idK 2)).row] = some (.ret (.bool true)) := same_ok (G := G) hE (ofT (idK 2)) (ofT (idK 2)) (okT_of _) (okT_of _)
  have hs2 : valP (cfW G T E) 38 [.agg (ofT (idK 2)).row, .agg (ofT (idK 1)).row] = some (.ret (.bool false)) := same_ok (G := G) hE (ofT (idK 2)) (ofT (idK 1)) (okT_of _) (okT_of _)
  have hc1 : valP (cfW G T E) 51 [.agg (numV 2).row, .agg [V.int .i64 1, .int .i64 1, .sl 3 []]] = some (.ret (.int .i64 (-1))) := compare_ok (G := G) hE (numV 2) boolV (okV_c.2.2.2.2.2.2.2.2.2 2) okV_c.2.2.2.2.2.2.2.1
  have hc2 : valP (cfW G T E) 51 [.agg [V.int .i64 4, .int .i64 0, .sl 3 [(numV 9).row]], .agg [V.int .i64 4, .int .i64 0, .sl 3 [(numV 1).row, (numV 1).row]]] = some (.ret (.int .i64 (-1))) := compare_ok (G := G) hE nineV onesV okV_c.2.2.2.2.1 okV_c.2.2.2.2.2.1
  have hc3 : valP (cfW G T E) 51 [.agg [V.int .i64 4, .int .i64 0, .sl 3 [(numV 1).row, (numV 1).row]], .agg [V.int .i64 4, .int .i64 0, .sl 3 [(numV 9).row]]] = some (.ret (.int .i64 1)) := compare_ok (G := G) hE onesV nineV okV_c.2.2.2.2.2.1 okV_c.2.2.2.2.1
  have hq1 : valP (cfW G T E) 55 [.agg zerosV.row, .agg [V.int .i64 2, .int .i64 0, .sl 3 [(numV 0).row, (numV 0).row]]] = some (.ret (.bool true)) := veq_ok (G := G) hE zerosV zerosV okV_c.1 okV_c.1
  have hq2 : valP (cfW G T E) 55 [.agg dotV.row, .agg [V.int .i64 3, .int .i64 0, .sl 3 [(numV 0).row]]] = some (.ret (.bool true)) := veq_ok (G := G) hE dotV dotV okV_c.2.2.2.2.2.2.2.2.1 okV_c.2.2.2.2.2.2.2.2.1
  have ha1 : valP (cfW G T E) 44 [.agg exP.row, .agg (ofT (idK 2)).row, .agg [V.int .i64 3, .int .i64 1, .sl 3 [[V.int .i64 2, .int .i64 0, .sl 3 [(numV 1).row, (numV (-2)).row]]]]] = some (.ret (.bool true)) := valid_v (G := G) hE exP exP_ok (ofT (idK 2)) (okT_of _) boxV okV_c.2.1
  have ha2 : valP (cfW G T E) 44 [.agg exP.row, .agg (ofT (idK 2)).row, .agg [V.int .i64 3, .int .i64 1, .sl 3 [(numV 1).row]]] = some (.ret (.bool false)) := valid_v (G := G) hE exP exP_ok (ofT (idK 2)) (okT_of _) wrongV okV_c.2.2.1
  have hw1 : valP (cfW G T E) 49 [.agg [V.int .i64 3, .int .i64 1, .sl 3 [[V.int .i64 2, .int .i64 0, .sl 3 [(numV 1).row, (numV (-2)).row]]]]] = some (.ret (.int .i64 4)) := weight_ok (G := G) hE boxV okV_c.2.1 rgV_c.1
  have hw2 : valP (cfW G T E) 49 [.agg [V.int .i64 4, .int .i64 0, .sl 3 [(numV 3).row, (numV 0).row]]] = some (.ret (.int .i64 5)) := weight_ok (G := G) hE listV okV_c.2.2.2.1 rgV_c.2.1
  have hn : valP (cfW G T E) 47 [.agg [V.int .i64 3, .int .i64 1, .sl 3 [[V.int .i64 2, .int .i64 0, .sl 3 [(numV 1).row, (numV (-2)).row]]]]] = some (.ret (.int .i64 4)) := size_ok (G := G) hE boxV okV_c.2.1
  have hby : (((((((((List.replicate 9 [V.int .u8 ((0 : Nat) : Int)]).set 0 [V.int .u8 ((129 : Nat) : Int)]).set 1 [V.int .u8 ((4 : Nat) : Int)]).set 2 [V.int .u8 ((128 : Nat) : Int)]).set 3 [V.int .u8 ((129 : Nat) : Int)]).set 4 [V.int .u8 ((1 : Nat) : Int)]).set 5 [V.int .u8 ((128 : Nat) : Int)]).set 6 [V.int .u8 ((129 : Nat) : Int)]).set 7 [V.int .u8 ((5 : Nat) : Int)]).set 8 [V.int .u8 ((128 : Nat) : Int)] = bytesV [129, 4, 128, 129, 1, 128, 129, 5, 128] := rfl
  have hnm : (exD2.name == [83, 104, 97, 112, 101]) = true := by decide
  have hfk : fiveV.kids.length = 1 := rfl
  refine xrun 22 (m := m42) hE rfl rfl rfl rfl ?_
  simp (maxSteps := 10000000) (disch := first | assumption | omega | (simp only [zy19, zy17, zy18, zy34, zy35, zy36, zy11, zy12, rsL] <;> omega) | with_reducible exact rowOK_nil _ _ | ((repeat' apply rowOK_put) <;> first | assumption | exact rowP_ok _ _ _ _ _ | omega) | (simp only [rsI]; done)) only [↓rsW, ↓rsd, rsu, rsX, zyB, Int.reduceEq, ↓reduceIte, zy0, zy1, zy2, zy3, zy4, zy5, zy6, zy7, zy8, zy9, zy10, zy11, zy12, zy13, zy14, zy15, zy16, Nat.reduceEqDiff, Nat.reduceBEq, Nat.reduceAdd, Nat.reduceMul, Nat.reduceSub, Int.reduceToNat, zy17, zy18, zy19, zy20, Nat.reduceLT, Nat.reduceLeDiff, zy21, zy22, zy23, zy24, zy25, zy26, Int.reduceAdd, Int.reduceMul, Int.reduceSub, Int.reduceNeg, Int.reduceDiv, Int.reduceMod, zy27, rsY, m42, id_ok hE, of_ok hE, num_ok hE, example_ok hE, hz1, hz2, he, hd, hf, hv1, hv2, hs1, hs2, hc1, hc2, hc3, hq1, hq2, ha1, ha2, hw1, hw2, hn, hby, hnm, beq_self_eq_true]
end Go.Proofs.Ytoccgkgdhobmfaa.Am.Ru
set_option maxRecDepth 100000
set_option linter.unusedSimpArgs false
set_option linter.unusedVariables false
namespace Go.Proofs.Ytoccgkgdhobmfaa.Am.Ru
open Go
variable {G : Nat → Option (List V)} {E : Nat → Option (CallFn → List V → Hp → Nat → Option Out)}
theorem okT_list {t : Typ} (h : okT t) : okT (listT t) := by simp [okT, okTs, listT, h]
theorem okT_k (k : Int) : okT (Typ.mk k ⟨0, 0, 0⟩ []) := by simp [okT, okTs]
theorem okT_pick (n d : Int) : okT (pickT n d) := by
  unfold pickT
  split
  · exact okT_k 1
  · split
    · exact okT_list okT_z
    · split
      · split
        · exact okT_list (okT_of _)
        · exact okT_of _
      · exact okT_z
theorem tySlots_mem {l : List Int} {i : Nat} : ∀ {k : Nat} {s : Slt}, s ∈ tySlots l i k → ∃ j, j < k ∧ s = tySlot l i j
  | 0, s, h => by cases h
  | k + 1, s, h => by
    rw [tySlots, List.mem_append] at h
    rcases h with h | h
    · obtain ⟨j, hj, e⟩ := tySlots_mem h; exact ⟨j, by omega, e⟩
    · rw [List.mem_singleton] at h; exact ⟨k, by omega, h⟩
theorem tyDefs_mem {l : List Int} : ∀ {i : Nat} {d : Dfn}, d ∈ tyDefs l i → ∃ j, j < i ∧ d = tyDef l j
  | 0, d, h => by cases h
  | i + 1, d, h => by
    rw [tyDefs, List.mem_append] at h
    rcases h with h | h
    · obtain ⟨j, hj, e⟩ := tyDefs_mem h; exact ⟨j, by omega, e⟩
    · rw [List.mem_singleton] at h; exact ⟨i, by omega, h⟩
theorem types_okD (l : List Int) : okDs (typesP l).defs := by
  have hM := tyM_b l
  refine ⟨by show (tyDefs l (tyM l)).length < _; rw [tyDefs_len]; omega, fun d hd => ?_⟩
  obtain ⟨j, hj, rfl⟩ := tyDefs_mem hd
  have hC := tyC_b l j
  refine ⟨by show (tySlots l j (tyC l j)).length < _; rw [tySlots_len]; omega, fun s hs => ?_⟩
  obtain ⟨k, hk, rfl⟩ := tySlots_mem hs
  exact okT_pick _ _
theorem defOf_app (a b : List Dfn) (i : Idn) : defOf (a ++ b) i = (defOf a i).or (defOf b i) := by
  induction a with
  | nil => simp [defOf]
  | cons d a ih =>
    simp only [List.cons_append, defOf]
    split
    · simp
    · exact ih
end Go.Proofs.Ytoccgkgdhobmfaa.Am.Ru
set_option maxRecDepth 100000
set_option linter.unusedSimpArgs false
set_option linter.unusedVariables false
namespace Go.Proofs.Ytoccgkgdhobmfaa.Am.Ru
open Go
variable {G : Nat → Option (List V)} {E : Nat → Option (CallFn → List V → Hp → Nat → Option Out)}
/-- A row made one after the other, each from where the last ended. -/
def mkG (g : Nat → Int → Val × Int) : Nat → Int → List Val × Int
  | 0, a => ([], a)
  | k + 1, a => ((mkG g k a).1 ++ [(g k (mkG g k a).2).1], (g k (mkG g k a).2).2)
def mkN (x : Int) : Int := if x % 16 = 0 then 1099511627776 - x / 16 % 3 else if x % 16 = 1 then -1099511627776 + x / 16 % 3 else x / 16 % 9 - 4
def mkM (x d : Int) : Nat := if 3 < d then 0 else (x % 3).toNat
def mkF (ds : List Dfn) (l : List Int) : Nat → Typ → Int → Int → Val × Int
  | 0, _, a, _ => (Val.z, a)
  | n + 1, t, a, d =>
    if t.kind = 0 then (.mk 0 (mkN (atL l a 1048576)) [], a + 1)
    else if t.kind = 1 then (.mk 1 (atL l a 1048576 % 2) [], a + 1)
    else if t.kind = 2 then
      (.mk 4 0 (mkG (fun _ b => mkF ds l n (t.kids.getD 0 Typ.z) b (d + 1)) (mkM (atL l a 1048576) d) (a + 1)).1, (mkG (fun _ b => mkF ds l n (t.kids.getD 0 Typ.z) b (d + 1)) (mkM (atL l a 1048576) d) (a + 1)).2)
    else if (defD ds t.ref).kind = 1 then
      (.mk 3 (atL l a 1048576 % (defD ds t.ref).slots.length) [(mkF ds l n ((defD ds t.ref).slots.getD (atL l a 1048576 % (defD ds t.ref).slots.length).toNat Slt.z).ty (a + 1) (d + 1)).1],
        (mkF ds l n ((defD ds t.ref).slots.getD (atL l a 1048576 % (defD ds t.ref).slots.length).toNat Slt.z).ty (a + 1) (d + 1)).2)
    else (.mk 2 0 (mkG (fun k b => mkF ds l n ((defD ds t.ref).slots.getD k Slt.z).ty b (d + 1)) (defD ds t.ref).slots.length (a + 1)).1,
        (mkG (fun k b => mkF ds l n ((defD ds t.ref).slots.getD k Slt.z).ty b (d + 1)) (defD ds t.ref).slots.length (a + 1)).2)
/-- The types of which values can be made, with what bounds their depth. -/
def rk (ds : List Dfn) : Nat → Typ → Prop
  | 0, _ => False
  | n + 1, t => vT ds 24 t = true ∧ ((t.kind = 0 ∨ t.kind = 1) ∨ (t.kind = 2 ∧ t.kids.length = 1 ∧ rk ds n (t.kids.getD 0 Typ.z)) ∨
      (t.kind = 3 ∧ ((defD ds t.ref).kind = 0 ∨ (defD ds t.ref).kind = 1) ∧ 0 < (defD ds t.ref).slots.length ∧ (defD ds t.ref).slots.length ≤ 3 ∧ ∀ s ∈ (defD ds t.ref).slots, rk ds n s.ty))
theorem mkG_at {g : Nat → Int → Val × Int} {B : Int} {m : Nat} (hg : ∀ k b, k < m → b ≤ (g k b).2 ∧ (g k b).2 ≤ b + B) : ∀ k a, k ≤ m → a ≤ (mkG g k a).2 ∧ (mkG g k a).2 ≤ a + k * B
  | 0, a, _ => by simp [mkG]
  | k + 1, a, hk => by
    have h1 := mkG_at hg k a (by omega)
    have h2 := hg k (mkG g k a).2 (by omega)
    simp only [mkG]
    have : ((k + 1 : Nat) : Int) * B = k * B + B := by rw [Int.natCast_add, Int.add_mul]; simp
    rw [this]
    omega
theorem mkG_len (g : Nat → Int → Val × Int) : ∀ k a, (mkG g k a).1.length = k
  | 0, a => rfl
  | k + 1, a => by simp [mkG, mkG_len g k a]
def pw4 : Nat → Int
  | 0 => 1
  | n + 1 => 4 * pw4 n
theorem pw4_pos : ∀ n, 1 ≤ pw4 n
  | 0 => by simp [pw4]
  | n + 1 => by have := pw4_pos n; simp only [pw4]; omega
theorem mkM_le (x d : Int) (h : 0 ≤ x) : mkM x d ≤ 2 := by unfold mkM; split <;> omega
theorem mkF_at (ds : List Dfn) (l : List Int) : ∀ (n : Nat) (t : Typ) (a d : Int), rk ds n t → a ≤ (mkF ds l n t a d).2 ∧ (mkF ds l n t a d).2 ≤ a + pw4 n := by
  intro n
  induction n with
  | zero => intro t a d h; exact absurd h (by simp [rk])
  | succ n ih =>
    intro t a d h
    have hp := pw4_pos n
    have hx := atL_nonneg l a 1048576 (by omega)
    simp only [mkF, pw4]
    obtain ⟨hvt, h⟩ := h
    rcases h with (h | h) | ⟨h, hk, hr⟩ | ⟨h, hk, hs0, hs3, hr⟩
    · rw [if_pos h]; dsimp only; omega
    · rw [if_neg (by omega), if_pos h]; dsimp only; omega
    · rw [if_neg (by omega), if_neg (by omega), if_pos h]
      have hm := mkM_le (atL l a 1048576) d hx
      have := mkG_at (g := fun _ b => mkF ds l n (t.kids.getD 0 Typ.z) b (d + 1)) (B := pw4 n) (m := mkM (atL l a 1048576) d) (fun k b _ => ih _ b _ hr) _ (a + 1) (Nat.le_refl _)
      generalize mkM (atL l a 1048576) d = m at *
      have h2 : (m : Int) * pw4 n ≤ 2 * pw4 n := Int.mul_le_mul_of_nonneg_right (by omega) (by omega)
      dsimp only; omega
    · rw [if_neg (by omega), if_neg (by omega), if_neg (by omega)]
      have hget : ∀ k, k < (defD ds t.ref).slots.length → rk ds n ((defD ds t.ref).slots.getD k Slt.z).ty := fun k hk => hr _ (getD_mem _ _ _ hk)
      split
      · have hxl := Int.emod_lt_of_pos (atL l a 1048576) (show (0 : Int) < (defD ds t.ref).slots.length by omega)
        have hx0 := Int.emod_nonneg (atL l a 1048576) (show ((defD ds t.ref).slots.length : Int) ≠ 0 by omega)
        have := ih _ (a + 1) (d + 1) (hget (atL l a 1048576 % (defD ds t.ref).slots.length).toNat (by omega))
        dsimp only; omega
      · have := mkG_at (g := fun k b => mkF ds l n ((defD ds t.ref).slots.getD k Slt.z).ty b (d + 1)) (B := pw4 n) (m := (defD ds t.ref).slots.length) (fun k b hk => ih _ b _ (hget k hk)) _ (a + 1) (Nat.le_refl _)
        have h2 : ((defD ds t.ref).slots.length : Int) * pw4 n ≤ 3 * pw4 n := Int.mul_le_mul_of_nonneg_right (by omega) (by omega)
        dsimp only; omega
def MakeOk (cf : CallFn) (p : Prg) (l : List Int) (n : Nat) : Prop := ∀ (t : Typ) (a d : Int), rk p.defs n t → okT t → 0 ≤ a → a + pw4 n ≤ 1000000000000 → 0 ≤ d → d + n ≤ 1000 →
  valP cf 81 [.agg p.row, .agg t.row, .sl 1 (rowI l), .int .i64 a, .int .i64 d] = some (.ret (.tup [.agg (mkF p.defs l n t a d).1.row, .int .i64 (mkF p.defs l n t a d).2]))
set_option maxHeartbeats 8000000 in
theorem make_ok (hE : XOK E) (p : Prg) (hp : okDs p.defs) (l : List Int) (hl : okI l) : ∀ n, MakeOk (cfW G T E) p l n := by
  intro n
  induction n with
  | zero => intro t a d h; exact absurd h (by simp [rk])
  | succ n ih =>
    intro t a d hr ht ha hb hd hdn
    have hpw := pw4_pos n
    simp only [pw4] at hb
    have hat := at_ok (G := G) hE l a 1048576 hl (by omega)
    have hx := atL_nonneg l a 1048576 (by omega)
    have hx1 := atL_lt l a 1048576 (by omega)
    have hrd := rdef_ok (G := G) hE p t.ref hp.1
    have hokd := okD_def hp t.ref
    have htk := (okT_kids t).1 ht
    generalize hR : mkF p.defs l (n + 1) t a d = R
    simp only [mkF] at hR
    have hsz : ∀ t' a' d', rk p.defs n t' → a' ≤ (mkF p.defs l n t' a' d').2 ∧ (mkF p.defs l n t' a' d').2 ≤ a' + pw4 n := mkF_at p.defs l n
    generalize atL l a 1048576 = x at *
    refine xrun 25 (m := m81) hE rfl rfl rfl rfl ?_
    obtain ⟨hvt, hr⟩ := hr
    rcases hr with (h | h) | ⟨h, hk, hr⟩ | ⟨h, hk, hs0, hs3, hr⟩
    · rw [if_pos h] at hR
      unfold mkN at hR
      by_cases c0 : x % 16 = 0
      · rw [if_pos c0] at hR
        simp (maxSteps := 10000000) (disch := first | assumption | omega | (simp only [zy19, zy17, zy18, zy34, zy35, zy36, zy11, zy12, rsL] <;> omega) | with_reducible exact rowOK_nil _ _ | ((repeat' apply rowOK_put) <;> first | assumption | exact rowP_ok _ _ _ _ _ | omega) | (simp only [rsI]; done)) only [↓rsW, ↓rsd, rsu, rsX, zyB, Int.reduceEq, ↓reduceIte, zy0, zy1, zy2, zy3, zy4, zy5, zy6, zy7, zy8, zy9, zy10, zy11, zy12, zy13, zy14, zy15, zy16, Nat.reduceEqDiff, Nat.reduceBEq, Nat.reduceAdd, Nat.reduceMul, Nat.reduceSub, Int.reduceToNat, zy17, zy18, zy19, zy20, Nat.reduceLT, Nat.reduceLeDiff, zy21, zy22, zy23, zy24, zy25, zy26, Int.reduceAdd, Int.reduceMul, Int.reduceSub, Int.reduceNeg, Int.reduceDiv, Int.reduceMod, zy27, rsY, m81, hat, h, c0]
        rw [← hR]; simp only [Val.row_eq, Val.kind_mk, Val.n_mk, Val.kids_mk]; rfl
      · rw [if_neg c0] at hR
        by_cases c1 : x % 16 = 1
        · rw [if_pos c1] at hR
          simp (maxSteps := 10000000) (disch := first | assumption | omega | (simp only [zy19, zy17, zy18, zy34, zy35, zy36, zy11, zy12, rsL] <;> omega) | with_reducible exact rowOK_nil _ _ | ((repeat' apply rowOK_put) <;> first | assumption | exact rowP_ok _ _ _ _ _ | omega) | (simp only [rsI]; done)) only [↓rsW, ↓rsd, rsu, rsX, zyB, Int.reduceEq, ↓reduceIte, zy0, zy1, zy2, zy3, zy4, zy5, zy6, zy7, zy8, zy9, zy10, zy11, zy12, zy13, zy14, zy15, zy16, Nat.reduceEqDiff, Nat.reduceBEq, Nat.reduceAdd, Nat.reduceMul, Nat.reduceSub, Int.reduceToNat, zy17, zy18, zy19, zy20, Nat.reduceLT, Nat.reduceLeDiff, zy21, zy22, zy23, zy24, zy25, zy26, Int.reduceAdd, Int.reduceMul, Int.reduceSub, Int.reduceNeg, Int.reduceDiv, Int.reduceMod, zy27, rsY, m81, hat, h, c0, c1]
          rw [← hR]; simp only [Val.row_eq, Val.kind_mk, Val.n_mk, Val.kids_mk]; rfl
        · rw [if_neg c1] at hR
          simp (maxSteps := 10000000) (disch := first | assumption | omega | (simp only [zy19, zy17, zy18, zy34, zy35, zy36, zy11, zy12, rsL] <;> omega) | with_reducible exact rowOK_nil _ _ | ((repeat' apply rowOK_put) <;> first | assumption | exact rowP_ok _ _ _ _ _ | omega) | (simp only [rsI]; done)) only [↓rsW, ↓rsd, rsu, rsX, zyB, Int.reduceEq, ↓reduceIte, zy0, zy1, zy2, zy3, zy4, zy5, zy6, zy7, zy8, zy9, zy10, zy11, zy12, zy13, zy14, zy15, zy16, Nat.reduceEqDiff, Nat.reduceBEq, Nat.reduceAdd, Nat.reduceMul, Nat.reduceSub, Int.reduceToNat, zy17, zy18, zy19, zy20, Nat.reduceLT, Nat.reduceLeDiff, zy21, zy22, zy23, zy24, zy25, zy26, Int.reduceAdd, Int.reduceMul, Int.reduceSub, Int.reduceNeg, Int.reduceDiv, Int.reduceMod, zy27, rsY, m81, hat, h, c0, c1]
          rw [← hR]; simp only [Val.row_eq, Val.kind_mk, Val.n_mk, Val.kids_mk]; rfl
    · rw [if_neg (by omega), if_pos h] at hR
      simp (maxSteps := 10000000) (disch := first | assumption | omega | (simp only [zy19, zy17, zy18, zy34, zy35, zy36, zy11, zy12, rsL] <;> omega) | with_reducible exact rowOK_nil _ _ | ((repeat' apply rowOK_put) <;> first | assumption | exact rowP_ok _ _ _ _ _ | omega) | (simp only [rsI]; done)) only [↓rsW, ↓rsd, rsu, rsX, zyB, Int.reduceEq, ↓reduceIte, zy0, zy1, zy2, zy3, zy4, zy5, zy6, zy7, zy8, zy9, zy10, zy11, zy12, zy13, zy14, zy15, zy16, Nat.reduceEqDiff, Nat.reduceBEq, Nat.reduceAdd, Nat.reduceMul, Nat.reduceSub, Int.reduceToNat, zy17, zy18, zy19, zy20, Nat.reduceLT, Nat.reduceLeDiff, zy21, zy22, zy23, zy24, zy25, zy26, Int.reduceAdd, Int.reduceMul, Int.reduceSub, Int.reduceNeg, Int.reduceDiv, Int.reduceMod, zy27, rsY, m81, hat, h]
      rw [← hR]; simp only [Val.row_eq, Val.kind_mk, Val.n_mk, Val.kids_mk]; rfl
    · rw [if_neg (by omega), if_neg (by omega), if_pos h] at hR
      have hk0 : t.kids.getD 0 Typ.z ∈ t.kids := getD_mem _ _ _ (by omega)
      have hm := mkM_le x d hx
      by_cases hd3 : 3 < d
      · have hm0 : mkM x d = 0 := if_pos hd3
        rw [hm0] at hR
        simp (maxSteps := 10000000) (disch := first | assumption | omega | (simp only [zy19, zy17, zy18, zy34, zy35, zy36, zy11, zy12, rsL] <;> omega) | with_reducible exact rowOK_nil _ _ | ((repeat' apply rowOK_put) <;> first | assumption | exact rowP_ok _ _ _ _ _ | omega) | (simp only [rsI]; done)) only [↓rsW, ↓rsd, rsu, rsX, zyB, Int.reduceEq, ↓reduceIte, zy0, zy1, zy2, zy3, zy4, zy5, zy6, zy7, zy8, zy9, zy10, zy11, zy12, zy13, zy14, zy15, zy16, Nat.reduceEqDiff, Nat.reduceBEq, Nat.reduceAdd, Nat.reduceMul, Nat.reduceSub, Int.reduceToNat, zy17, zy18, zy19, zy20, Nat.reduceLT, Nat.reduceLeDiff, zy21, zy22, zy23, zy24, zy25, zy26, Int.reduceAdd, Int.reduceMul, Int.reduceSub, Int.reduceNeg, Int.reduceDiv, Int.reduceMod, zy27, rsY, m81, hat, h, hd3]
        refine go_once ?_
        simp (maxSteps := 10000000) (disch := first | assumption | omega | (simp only [zy19, zy17, zy18, zy34, zy35, zy36, zy11, zy12, rsL] <;> omega) | with_reducible exact rowOK_nil _ _ | ((repeat' apply rowOK_put) <;> first | assumption | exact rowP_ok _ _ _ _ _ | omega) | (simp only [rsI]; done)) only [↓rsW, ↓rsd, rsu, rsX, zyB, Int.reduceEq, ↓reduceIte, zy0, zy1, zy2, zy3, zy4, zy5, zy6, zy7, zy8, zy9, zy10, zy11, zy12, zy13, zy14, zy15, zy16, Nat.reduceEqDiff, Nat.reduceBEq, Nat.reduceAdd, Nat.reduceMul, Nat.reduceSub, Int.reduceToNat, zy17, zy18, zy19, zy20, Nat.reduceLT, Nat.reduceLeDiff, zy21, zy22, zy23, zy24, zy25, zy26, Int.reduceAdd, Int.reduceMul, Int.reduceSub, Int.reduceNeg, Int.reduceDiv, Int.reduceMod, zy27, rsY]
        rw [← hR]; simp only [mkG, Val.row_eq, Val.kind_mk, Val.n_mk, Val.kids_mk, Val.rows_nil]
      · obtain ⟨m, hmi⟩ : ∃ m : Nat, x % 3 = (m : Int) := ⟨(x % 3).toNat, by omega⟩
        have hm3 : m ≤ 2 := by omega
        have hmm : mkM x d = m := by unfold mkM; rw [if_neg hd3]; omega
        rw [hmm] at hR
        have hga := mkG_at (g := fun _ b => mkF p.defs l n (t.kids.getD 0 Typ.z) b (d + 1)) (B := pw4 n) (m := m) (fun k b _ => hsz _ b (d + 1) hr)
        simp (maxSteps := 10000000) (disch := first | assumption | omega | (simp only [zy19, zy17, zy18, zy34, zy35, zy36, zy11, zy12, rsL] <;> omega) | with_reducible exact rowOK_nil _ _ | ((repeat' apply rowOK_put) <;> first | assumption | exact rowP_ok _ _ _ _ _ | omega) | (simp only [rsI]; done)) only [↓rsW, ↓rsd, rsu, rsX, zyB, Int.reduceEq, ↓reduceIte, zy0, zy1, zy2, zy3, zy4, zy5, zy6, zy7, zy8, zy9, zy10, zy11, zy12, zy13, zy14, zy15, zy16, Nat.reduceEqDiff, Nat.reduceBEq, Nat.reduceAdd, Nat.reduceMul, Nat.reduceSub, Int.reduceToNat, zy17, zy18, zy19, zy20, Nat.reduceLT, Nat.reduceLeDiff, zy21, zy22, zy23, zy24, zy25, zy26, Int.reduceAdd, Int.reduceMul, Int.reduceSub, Int.reduceNeg, Int.reduceDiv, Int.reduceMod, zy27, rsY, m81, hat, h, hd3, hmi]
        generalize hg : (fun (_ : Nat) b => mkF p.defs l n (t.kids.getD 0 Typ.z) b (d + 1)) = g at hR hga
        have hgk : ∀ k b, g k b = mkF p.defs l n (t.kids.getD 0 Typ.z) b (d + 1) := fun k b => by rw [← hg]
        refine go_loop2 25 (fun n' s => ∃ (q jj : Nat) (acc : List Val) (b : Int), n' = m - q ∧ q ≤ m ∧ mkG g q (a + 1) = (acc, b) ∧ acc.length = q ∧ (4 ≤ s.N ∧ (jj < s.N ∧ 4 ≤ jj ∨ q = 0 ∧ s.N = 4 ∧ jj = 1000)) ∧ s.e 2 = .sl 1 (rowI l) ∧ s.e 4 = .int .i64 d ∧ s.e 5 = .ptr 0 0 ∧ s.e 6 = .ptr 1 0 ∧ s.e 10 = .ptr 2 0 ∧ s.e 13 = .ptr 3 0 ∧ s.e 3 = .int .i64 b ∧ s.e 14 = .int .i64 (m : Nat) ∧ s.e 15 = .int .i64 (q : Nat) ∧
          s.o 0 = .box p.row ∧ s.o 1 = .box t.row ∧ s.o 2 = .box [.int .i64 0, .int .i64 0, .nils 3] ∧ s.o 3 = .box [.int .i64 4, .int .i64 0, rowV 3 jj (Val.rows acc)] ∧ RowOK s.o 3 jj (Val.rows acc)) m ?_ ?_
        · refine ⟨0, 1000, [], a + 1, rfl, by omega, rfl, rfl, ⟨Nat.le_refl _, .inr ⟨rfl, rfl, rfl⟩⟩, ?_⟩
          simp (maxSteps := 10000000) (disch := first | assumption | omega | (simp only [zy19, zy17, zy18, zy34, zy35, zy36, zy11, zy12, rsL] <;> omega) | with_reducible exact rowOK_nil _ _ | ((repeat' apply rowOK_put) <;> first | assumption | exact rowP_ok _ _ _ _ _ | omega) | (simp only [rsI]; done)) only [↓rsW, ↓rsd, rsu, rsX, zyB, Int.reduceEq, ↓reduceIte, zy0, zy1, zy2, zy3, zy4, zy5, zy6, zy7, zy8, zy9, zy10, zy11, zy12, zy13, zy14, zy15, zy16, Nat.reduceEqDiff, Nat.reduceBEq, Nat.reduceAdd, Nat.reduceMul, Nat.reduceSub, Int.reduceToNat, zy17, zy18, zy19, zy20, Nat.reduceLT, Nat.reduceLeDiff, zy21, zy22, zy23, zy24, zy25, zy26, Int.reduceAdd, Int.reduceMul, Int.reduceSub, Int.reduceNeg, Int.reduceDiv, Int.reduceMod, zy27, rsY]
          exact ⟨rfl, rfl, rowOK_nil _ _⟩
        · rintro n' e o M ⟨q, jj, acc, b, hn, hq, hI, hal, hM, e2, e4, e5, e6, e10, e13, e3, e14, e15, o0, o1, o2, o3, hrow⟩
          simp only at hM e2 e4 e5 e6 e10 e13 e3 e14 e15 o0 o1 o2 o3 hrow
          have hjj : ¬ (jj = 0) ∧ ¬ (jj = 1) ∧ ¬ (jj = 2) ∧ ¬ (jj = 3) ∧ ¬ (jj = M) ∧ ¬ (jj = M + 1) := by
            rcases hM.2 with h | h
            · omega
            · omega
          obtain ⟨j1, j2, j3, j4, j5, j6⟩ := hjj
          have hM0 := hM.1
          have hgq := hga q (a + 1) hq
          rw [hI] at hgq
          dsimp only at hgq
          have hqB : (q : Int) * pw4 n ≤ 2 * pw4 n := Int.mul_le_mul_of_nonneg_right (by omega) (by omega)
          by_cases hlt : q < m
          · have hI2 : mkG g (q + 1) (a + 1) = (acc ++ [(mkF p.defs l n (t.kids.getD 0 Typ.z) b (d + 1)).1], (mkF p.defs l n (t.kids.getD 0 Typ.z) b (d + 1)).2) := by
              simp only [mkG, hI, hgk]
            have hc := ih (t.kids.getD 0 Typ.z) b (d + 1) hr (htk.2 _ hk0) (by omega) (by omega) (by omega) (by omega)
            generalize mkF p.defs l n (t.kids.getD 0 Typ.z) b (d + 1) = F at hc hI2
            simp (maxSteps := 10000000) (disch := first | assumption | omega | (simp only [zy19, zy17, zy18, zy34, zy35, zy36, zy11, zy12, rsL] <;> omega) | with_reducible exact rowOK_nil _ _ | ((repeat' apply rowOK_put) <;> first | assumption | exact rowP_ok _ _ _ _ _ | omega) | (simp only [rsI]; done)) only [↓rsW, ↓rsd, rsu, rsX, zyB, Int.reduceEq, ↓reduceIte, zy0, zy1, zy2, zy3, zy4, zy5, zy6, zy7, zy8, zy9, zy10, zy11, zy12, zy13, zy14, zy15, zy16, Nat.reduceEqDiff, Nat.reduceBEq, Nat.reduceAdd, Nat.reduceMul, Nat.reduceSub, Int.reduceToNat, zy17, zy18, zy19, zy20, Nat.reduceLT, Nat.reduceLeDiff, zy21, zy22, zy23, zy24, zy25, zy26, Int.reduceAdd, Int.reduceMul, Int.reduceSub, Int.reduceNeg, Int.reduceDiv, Int.reduceMod, zy27, rsY, e2, e4, e5, e6, e10, e13, e3, e14, e15, o0, o1, o2, o3, hc]
            refine ⟨m - (q + 1), by omega, q + 1, M + 1, acc ++ [F.1], F.2, rfl, by omega, hI2, by rw [List.length_append, hal]; rfl, by omega, ?_⟩
            exact ⟨rfl, rfl, rfl, by rw [← Val.rows_snoc]; exact rowOK_put (rowP_ok _ _ _ _ _) (by omega)⟩
          · have hq' : q = m := by omega
            subst hq'
            rw [hI] at hR
            simp (maxSteps := 10000000) (disch := first | assumption | omega | (simp only [zy19, zy17, zy18, zy34, zy35, zy36, zy11, zy12, rsL] <;> omega) | with_reducible exact rowOK_nil _ _ | ((repeat' apply rowOK_put) <;> first | assumption | exact rowP_ok _ _ _ _ _ | omega) | (simp only [rsI]; done)) only [↓rsW, ↓rsd, rsu, rsX, zyB, Int.reduceEq, ↓reduceIte, zy0, zy1, zy2, zy3, zy4, zy5, zy6, zy7, zy8, zy9, zy10, zy11, zy12, zy13, zy14, zy15, zy16, Nat.reduceEqDiff, Nat.reduceBEq, Nat.reduceAdd, Nat.reduceMul, Nat.reduceSub, Int.reduceToNat, zy17, zy18, zy19, zy20, Nat.reduceLT, Nat.reduceLeDiff, zy21, zy22, zy23, zy24, zy25, zy26, Int.reduceAdd, Int.reduceMul, Int.reduceSub, Int.reduceNeg, Int.reduceDiv, Int.reduceMod, zy27, rsY, e2, e4, e5, e6, e10, e13, e3, e14, e15, o0, o1, o2, o3]
            rw [← hR]; simp only [Val.row_eq, Val.kind_mk, Val.n_mk, Val.kids_mk]
    · rw [if_neg (by omega), if_neg (by omega), if_neg (by omega)] at hR
      generalize defD p.defs t.ref = df at *
      have hget : ∀ k, k < df.slots.length → rk p.defs n (df.slots.getD k Slt.z).ty := fun k hk => hr _ (getD_mem _ _ _ hk)
      by_cases d1 : df.kind = 1
      · rw [if_pos d1] at hR
        have hxl := Int.emod_lt_of_pos x (show (0 : Int) < df.slots.length by omega)
        have hx0 := Int.emod_nonneg x (show (df.slots.length : Int) ≠ 0 by omega)
        obtain ⟨k, hk⟩ : ∃ k : Nat, x % (df.slots.length : Int) = (k : Int) := ⟨(x % (df.slots.length : Int)).toNat, by omega⟩
        rw [hk] at hR hxl
        have hkl : k < df.slots.length := by omega
        have hc := ih (df.slots.getD k Slt.z).ty (a + 1) (d + 1) (hget k hkl) (hokd.2 _ (getD_mem _ _ _ hkl)) (by omega) (by omega) (by omega) (by omega)
        rw [Int.toNat_natCast] at hR
        generalize mkF p.defs l n (df.slots.getD k Slt.z).ty (a + 1) (d + 1) = F at hc hR
        simp (maxSteps := 10000000) (disch := first | assumption | omega | (simp only [zy19, zy17, zy18, zy34, zy35, zy36, zy11, zy12, rsL] <;> omega) | with_reducible exact rowOK_nil _ _ | ((repeat' apply rowOK_put) <;> first | assumption | exact rowP_ok _ _ _ _ _ | omega) | (simp only [rsI]; done)) only [↓rsW, ↓rsd, rsu, rsX, zyB, Int.reduceEq, ↓reduceIte, zy0, zy1, zy2, zy3, zy4, zy5, zy6, zy7, zy8, zy9, zy10, zy11, zy12, zy13, zy14, zy15, zy16, Nat.reduceEqDiff, Nat.reduceBEq, Nat.reduceAdd, Nat.reduceMul, Nat.reduceSub, Int.reduceToNat, zy17, zy18, zy19, zy20, Nat.reduceLT, Nat.reduceLeDiff, zy21, zy22, zy23, zy24, zy25, zy26, Int.reduceAdd, Int.reduceMul, Int.reduceSub, Int.reduceNeg, Int.reduceDiv, Int.reduceMod, zy27, rsY, m81, hat, h, hrd, d1, hk, hc]
        rw [← hR]; simp only [Val.row_eq, Val.kind_mk, Val.n_mk, Val.kids_mk, Val.rows_cons, Val.rows_nil]
      · rw [if_neg d1] at hR
        have hga := mkG_at (g := fun k b => mkF p.defs l n (df.slots.getD k Slt.z).ty b (d + 1)) (B := pw4 n) (m := df.slots.length) (fun k b hk => hsz _ b (d + 1) (hget k hk))
        simp (maxSteps := 10000000) (disch := first | assumption | omega | (simp only [zy19, zy17, zy18, zy34, zy35, zy36, zy11, zy12, rsL] <;> omega) | with_reducible exact rowOK_nil _ _ | ((repeat' apply rowOK_put) <;> first | assumption | exact rowP_ok _ _ _ _ _ | omega) | (simp only [rsI]; done)) only [↓rsW, ↓rsd, rsu, rsX, zyB, Int.reduceEq, ↓reduceIte, zy0, zy1, zy2, zy3, zy4, zy5, zy6, zy7, zy8, zy9, zy10, zy11, zy12, zy13, zy14, zy15, zy16, Nat.reduceEqDiff, Nat.reduceBEq, Nat.reduceAdd, Nat.reduceMul, Nat.reduceSub, Int.reduceToNat, zy17, zy18, zy19, zy20, Nat.reduceLT, Nat.reduceLeDiff, zy21, zy22, zy23, zy24, zy25, zy26, Int.reduceAdd, Int.reduceMul, Int.reduceSub, Int.reduceNeg, Int.reduceDiv, Int.reduceMod, zy27, rsY, m81, hat, h, hrd, d1]
        generalize hg : (fun (k : Nat) b => mkF p.defs l n (df.slots.getD k Slt.z).ty b (d + 1)) = g at hR hga
        have hgk : ∀ k b, g k b = mkF p.defs l n (df.slots.getD k Slt.z).ty b (d + 1) := fun k b => by rw [← hg]
        refine go_loop2 25 (fun n' s => ∃ (q jj : Nat) (acc : List Val) (b : Int), n' = df.slots.length - q ∧ q ≤ df.slots.length ∧ mkG g q (a + 1) = (acc, b) ∧ acc.length = q ∧ (5 ≤ s.N ∧ (jj < s.N ∧ 5 ≤ jj ∨ q = 0 ∧ s.N = 5 ∧ jj = 1000)) ∧ s.e 2 = .sl 1 (rowI l) ∧ s.e 4 = .int .i64 d ∧ s.e 5 = .ptr 0 0 ∧ s.e 6 = .ptr 1 0 ∧ s.e 10 = .ptr 2 0 ∧ s.e 13 = .ptr 3 0 ∧ s.e 18 = .ptr 4 0 ∧ s.e 3 = .int .i64 b ∧ s.e 22 = .int .i64 (q : Nat) ∧
          s.o 0 = .box p.row ∧ s.o 1 = .box t.row ∧ s.o 2 = .box [.int .i64 0, .int .i64 0, .nils 3] ∧ s.o 3 = .box [.int .i64 2, .int .i64 0, rowV 3 jj (Val.rows acc)] ∧ s.o 4 = .box df.row ∧ RowOK s.o 3 jj (Val.rows acc)) df.slots.length ?_ ?_
        · refine ⟨0, 1000, [], a + 1, rfl, by omega, rfl, rfl, ⟨Nat.le_refl _, .inr ⟨rfl, rfl, rfl⟩⟩, ?_⟩
          simp (maxSteps := 10000000) (disch := first | assumption | omega | (simp only [zy19, zy17, zy18, zy34, zy35, zy36, zy11, zy12, rsL] <;> omega) | with_reducible exact rowOK_nil _ _ | ((repeat' apply rowOK_put) <;> first | assumption | exact rowP_ok _ _ _ _ _ | omega) | (simp only [rsI]; done)) only [↓rsW, ↓rsd, rsu, rsX, zyB, Int.reduceEq, ↓reduceIte, zy0, zy1, zy2, zy3, zy4, zy5, zy6, zy7, zy8, zy9, zy10, zy11, zy12, zy13, zy14, zy15, zy16, Nat.reduceEqDiff, Nat.reduceBEq, Nat.reduceAdd, Nat.reduceMul, Nat.reduceSub, Int.reduceToNat, zy17, zy18, zy19, zy20, Nat.reduceLT, Nat.reduceLeDiff, zy21, zy22, zy23, zy24, zy25, zy26, Int.reduceAdd, Int.reduceMul, Int.reduceSub, Int.reduceNeg, Int.reduceDiv, Int.reduceMod, zy27, rsY]
          exact ⟨rfl, rfl, rowOK_nil _ _⟩
        · rintro n' e o M ⟨q, jj, acc, b, hn, hq, hI, hal, hM, e2, e4, e5, e6, e10, e13, e18, e3, e22, o0, o1, o2, o3, o4, hrow⟩
          simp only at hM e2 e4 e5 e6 e10 e13 e18 e3 e22 o0 o1 o2 o3 o4 hrow
          have hjj : ¬ (jj = 0) ∧ ¬ (jj = 1) ∧ ¬ (jj = 2) ∧ ¬ (jj = 3) ∧ ¬ (jj = 4) ∧ ¬ (jj = M) ∧ ¬ (jj = M + 1) := by
            rcases hM.2 with h | h
            · omega
            · omega
          obtain ⟨j1, j2, j3, j4, j5, j6, j7⟩ := hjj
          have hM0 := hM.1
          have hgq := hga q (a + 1) hq
          rw [hI] at hgq
          dsimp only at hgq
          have hqB : (q : Int) * pw4 n ≤ 3 * pw4 n := Int.mul_le_mul_of_nonneg_right (by omega) (by omega)
          by_cases hlt : q < df.slots.length
          · have hI2 : mkG g (q + 1) (a + 1) = (acc ++ [(mkF p.defs l n (df.slots.getD q Slt.z).ty b (d + 1)).1], (mkF p.defs l n (df.slots.getD q Slt.z).ty b (d + 1)).2) := by
              simp only [mkG, hI, hgk]
            have hq2 : ((q : Int) + 1) * pw4 n ≤ 3 * pw4 n := Int.mul_le_mul_of_nonneg_right (by omega) (by omega)
            have hq3 : ((q : Int) + 1) * pw4 n = q * pw4 n + pw4 n := by rw [Int.add_mul]; simp
            have hc := ih (df.slots.getD q Slt.z).ty b (d + 1) (hget q hlt) (hokd.2 _ (getD_mem _ _ _ hlt)) (by omega) (by omega) (by omega) (by omega)
            generalize mkF p.defs l n (df.slots.getD q Slt.z).ty b (d + 1) = F at hc hI2
            simp (maxSteps := 10000000) (disch := first | assumption | omega | (simp only [zy19, zy17, zy18, zy34, zy35, zy36, zy11, zy12, rsL] <;> omega) | with_reducible exact rowOK_nil _ _ | ((repeat' apply rowOK_put) <;> first | assumption | exact rowP_ok _ _ _ _ _ | omega) | (simp only [rsI]; done)) only [↓rsW, ↓rsd, rsu, rsX, zyB, Int.reduceEq, ↓reduceIte, zy0, zy1, zy2, zy3, zy4, zy5, zy6, zy7, zy8, zy9, zy10, zy11, zy12, zy13, zy14, zy15, zy16, Nat.reduceEqDiff, Nat.reduceBEq, Nat.reduceAdd, Nat.reduceMul, Nat.reduceSub, Int.reduceToNat, zy17, zy18, zy19, zy20, Nat.reduceLT, Nat.reduceLeDiff, zy21, zy22, zy23, zy24, zy25, zy26, Int.reduceAdd, Int.reduceMul, Int.reduceSub, Int.reduceNeg, Int.reduceDiv, Int.reduceMod, zy27, rsY, e2, e4, e5, e6, e10, e13, e18, e3, e22, o0, o1, o2, o3, o4, hc]
            refine ⟨df.slots.length - (q + 1), by omega, q + 1, M + 1, acc ++ [F.1], F.2, rfl, by omega, hI2, by rw [List.length_append, hal]; rfl, by omega, ?_⟩
            exact ⟨rfl, rfl, rfl, by rw [← Val.rows_snoc]; exact rowOK_put (rowP_ok _ _ _ _ _) (by omega)⟩
          · have hq' : q = df.slots.length := by omega
            subst hq'
            rw [hI] at hR
            simp (maxSteps := 10000000) (disch := first | assumption | omega | (simp only [zy19, zy17, zy18, zy34, zy35, zy36, zy11, zy12, rsL] <;> omega) | with_reducible exact rowOK_nil _ _ | ((repeat' apply rowOK_put) <;> first | assumption | exact rowP_ok _ _ _ _ _ | omega) | (simp only [rsI]; done)) only [↓rsW, ↓rsd, rsu, rsX, zyB, Int.reduceEq, ↓reduceIte, zy0, zy1, zy2, zy3, zy4, zy5, zy6, zy7, zy8, zy9, zy10, zy11, zy12, zy13, zy14, zy15, zy16, Nat.reduceEqDiff, Nat.reduceBEq, Nat.reduceAdd, Nat.reduceMul, Nat.reduceSub, Int.reduceToNat, zy17, zy18, zy19, zy20, Nat.reduceLT, Nat.reduceLeDiff, zy21, zy22, zy23, zy24, zy25, zy26, Int.reduceAdd, Int.reduceMul, Int.reduceSub, Int.reduceNeg, Int.reduceDiv, Int.reduceMod, zy27, rsY, e2, e4, e5, e6, e10, e13, e18, e3, e22, o0, o1, o2, o3, o4]
            rw [← hR]; simp only [Val.row_eq, Val.kind_mk, Val.n_mk, Val.kids_mk]
end Go.Proofs.Ytoccgkgdhobmfaa.Am.Ru
