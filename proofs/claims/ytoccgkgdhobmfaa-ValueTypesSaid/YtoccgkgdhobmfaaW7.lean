/- ValueTypes: the law answers true at every input and leaves its arguments as they were. No condition. -/
import Derived.Test.YtoccgkgdhobmfaaW6
import Derived.KernelRfl
import Derived.ProofKit
import Derived.RowKit
import Derived.OpenShut
import Derived.ChangeSame
import Derived.ReadAgain
import Derived.SliceStrings
import Derived.ChangeSlices
import Derived.ChangeMaps5
import Derived.ChangeBears
import Derived.Test.YtoccgkgdhobmfaaRows
import Derived.WalkKit
import Derived.Deep.DeepHandedRow
import Derived.Lib.LaidTab
import Derived.Stop.LaidErr
set_option maxRecDepth 100000
set_option linter.unusedSimpArgs false
set_option linter.unusedVariables false
namespace Go.Proofs.Ytoccgkgdhobmfaa.Am.Ru
open Go
variable {G : Nat → Option (List V)} {E : Nat → Option (CallFn → List V → Hp → Nat → Option Out)}
def numV (n : Int) : Val := .mk 0 n []
theorem num_ok (hE : XOK E) (n : Int) : valP (cfW G T E) 46 [.int .i64 n] = some (.ret (.agg (numV n).row)) := by
  refine xrun 2 (m := m46) hE rfl rfl rfl rfl ?_
  simp (maxSteps := 10000000) (disch := first | assumption | omega | (simp only [zy19, zy17, zy18, zy34, zy35, zy36, zy11, zy12, rsL] <;> omega) | with_reducible exact xor8_lt _ _ | with_reducible exact or8_lt _ _ | with_reducible exact toNat_lt8 _ | with_reducible exact rowP_ok _ _ _ _ _ | with_reducible exact rowOK_nil _ _ | ((repeat' apply rowOK_put) <;> first | assumption | exact rowP_ok _ _ _ _ _ | omega) | (simp only [rsI]; done)) only [↓rsW, ↓rsd, rsu, rsX, zy28, zy29, zy30, zy31, zy32, zy33, Int.reduceEq, ↓reduceIte, zy0, zy1, zy2, zy3, zy4, zy5, zy6, zy7, zy8, zy9, zy10, zy11, zy12, zy13, zy14, zy15, zy16, Nat.reduceEqDiff, Nat.reduceBEq, Nat.reduceAdd, Nat.reduceMul, Nat.reduceSub, Int.reduceToNat, zy17, zy18, zy19, zy20, Nat.reduceLT, Nat.reduceLeDiff, zy21, zy22, zy23, zy24, zy25, zy26, Int.reduceAdd, Int.reduceMul, Int.reduceSub, Int.reduceNeg, Int.reduceDiv, Int.reduceMod, zy27, rsY, m46]
  rw [Val.row_eq]; rfl
theorem veq_ok (hE : XOK E) (a b : Val) (ha : okV' a) (hb : okV' b) : valP (cfW G T E) 55 [.agg a.row, .agg b.row] = some (.ret (.bool (decide (cmpV a b = 0)))) := by
  have hc := rcompare_ok (G := G) hE a b ha hb
  refine xrun 4 (m := m55) hE rfl rfl rfl rfl ?_
  by_cases h : cmpV a b = 0
  · simp (maxSteps := 10000000) (disch := first | assumption | omega | (simp only [zy19, zy17, zy18, zy34, zy35, zy36, zy11, zy12, rsL] <;> omega) | with_reducible exact xor8_lt _ _ | with_reducible exact or8_lt _ _ | with_reducible exact toNat_lt8 _ | with_reducible exact rowP_ok _ _ _ _ _ | with_reducible exact rowOK_nil _ _ | ((repeat' apply rowOK_put) <;> first | assumption | exact rowP_ok _ _ _ _ _ | omega) | (simp only [rsI]; done)) only [↓rsW, ↓rsd, rsu, rsX, zy28, zy29, zy30, zy31, zy32, zy33, Int.reduceEq, ↓reduceIte, zy0, zy1, zy2, zy3, zy4, zy5, zy6, zy7, zy8, zy9, zy10, zy11, zy12, zy13, zy14, zy15, zy16, Nat.reduceEqDiff, Nat.reduceBEq, Nat.reduceAdd, Nat.reduceMul, Nat.reduceSub, Int.reduceToNat, zy17, zy18, zy19, zy20, Nat.reduceLT, Nat.reduceLeDiff, zy21, zy22, zy23, zy24, zy25, zy26, Int.reduceAdd, Int.reduceMul, Int.reduceSub, Int.reduceNeg, Int.reduceDiv, Int.reduceMod, zy27, rsY, m55, hc, h]
  · simp (maxSteps := 10000000) (disch := first | assumption | omega | (simp only [zy19, zy17, zy18, zy34, zy35, zy36, zy11, zy12, rsL] <;> omega) | with_reducible exact xor8_lt _ _ | with_reducible exact or8_lt _ _ | with_reducible exact toNat_lt8 _ | with_reducible exact rowP_ok _ _ _ _ _ | with_reducible exact rowOK_nil _ _ | ((repeat' apply rowOK_put) <;> first | assumption | exact rowP_ok _ _ _ _ _ | omega) | (simp only [rsI]; done)) only [↓rsW, ↓rsd, rsu, rsX, zy28, zy29, zy30, zy31, zy32, zy33, Int.reduceEq, ↓reduceIte, zy0, zy1, zy2, zy3, zy4, zy5, zy6, zy7, zy8, zy9, zy10, zy11, zy12, zy13, zy14, zy15, zy16, Nat.reduceEqDiff, Nat.reduceBEq, Nat.reduceAdd, Nat.reduceMul, Nat.reduceSub, Int.reduceToNat, zy17, zy18, zy19, zy20, Nat.reduceLT, Nat.reduceLeDiff, zy21, zy22, zy23, zy24, zy25, zy26, Int.reduceAdd, Int.reduceMul, Int.reduceSub, Int.reduceNeg, Int.reduceDiv, Int.reduceMod, zy27, rsY, m55, hc, h]
def cut4 (d : Dfn) : Dfn := ⟨d.id, d.kind, d.mod, d.name, d.slots.take 4, d.result, d.body, d.place, d.layout⟩
def fewP (p : Prg) : Prg := ⟨[], (p.defs.take 6).map cut4⟩
theorem cut4_short (d : Dfn) (h : d.slots.length ≤ 4) : cut4 d = d := by
  cases d; unfold cut4; simp only at h ⊢; rw [List.take_of_length_le h]
theorem take_fold (l : List Dfn) (i : Nat) (h : i < l.length) : Dfn.rows ((l.take i).map cut4) ++ [(cut4 (l.getD i Dfn.z)).row] = Dfn.rows ((l.take (i + 1)).map cut4) := by
  rw [Dfn.rows_snoc, List.take_add_one, List.map_append]
  congr 2
  simp [h, List.getD]
set_option maxHeartbeats 4000000 in
theorem fewp_ok (hE : XOK E) (p : Prg) (hp : okDs p.defs) : valP (cfW G T E) 32 [.agg p.row] = some (.ret (.agg (fewP p).row)) := by
  have hpl := hp.1
  refine xrun 6 (m := m32) hE rfl rfl rfl rfl ?_
  simp (maxSteps := 10000000) (disch := first | assumption | omega | (simp only [zy19, zy17, zy18, zy34, zy35, zy36, zy11, zy12, rsL] <;> omega) | with_reducible exact xor8_lt _ _ | with_reducible exact or8_lt _ _ | with_reducible exact toNat_lt8 _ | with_reducible exact rowP_ok _ _ _ _ _ | with_reducible exact rowOK_nil _ _ | ((repeat' apply rowOK_put) <;> first | assumption | exact rowP_ok _ _ _ _ _ | omega) | (simp only [rsI]; done)) only [↓rsW, ↓rsd, rsu, rsX, zy28, zy29, zy30, zy31, zy32, zy33, Int.reduceEq, ↓reduceIte, zy0, zy1, zy2, zy3, zy4, zy5, zy6, zy7, zy8, zy9, zy10, zy11, zy12, zy13, zy14, zy15, zy16, Nat.reduceEqDiff, Nat.reduceBEq, Nat.reduceAdd, Nat.reduceMul, Nat.reduceSub, Int.reduceToNat, zy17, zy18, zy19, zy20, Nat.reduceLT, Nat.reduceLeDiff, zy21, zy22, zy23, zy24, zy25, zy26, Int.reduceAdd, Int.reduceMul, Int.reduceSub, Int.reduceNeg, Int.reduceDiv, Int.reduceMod, zy27, rsY, m32]
  refine go_loop2 6 (fun n s => ∃ i jd : Nat, n = 6 - i ∧ i ≤ 6 ∧ i ≤ p.defs.length ∧ 3 ≤ s.N ∧ (i = 0 ∧ jd = 1000 ∧ s.N = 3 ∨ 3 ≤ jd ∧ jd < s.N) ∧ s.e 1 = .ptr 0 0 ∧ s.e 2 = .ptr 1 0 ∧ s.e 3 = .ptr 2 0 ∧ s.e 4 = .int .i64 (i : Nat) ∧
    s.o 0 = .box p.row ∧ s.o 1 = .box [.nils 6, .nils 31] ∧ s.o 2 = .box [.nils 6, rowV 31 jd (Dfn.rows ((p.defs.take i).map cut4))] ∧ RowOK s.o 31 jd (Dfn.rows ((p.defs.take i).map cut4))) 6 ?_ ?_
  · refine ⟨0, 1000, rfl, by omega, by omega, Nat.le_refl _, .inl ⟨rfl, rfl, rfl⟩, ?_⟩
    simp (maxSteps := 10000000) (disch := first | assumption | omega | (simp only [zy19, zy17, zy18, zy34, zy35, zy36, zy11, zy12, rsL] <;> omega) | with_reducible exact xor8_lt _ _ | with_reducible exact or8_lt _ _ | with_reducible exact toNat_lt8 _ | with_reducible exact rowP_ok _ _ _ _ _ | with_reducible exact rowOK_nil _ _ | ((repeat' apply rowOK_put) <;> first | assumption | exact rowP_ok _ _ _ _ _ | omega) | (simp only [rsI]; done)) only [↓rsW, ↓rsd, rsu, rsX, zy28, zy29, zy30, zy31, zy32, zy33, Int.reduceEq, ↓reduceIte, zy0, zy1, zy2, zy3, zy4, zy5, zy6, zy7, zy8, zy9, zy10, zy11, zy12, zy13, zy14, zy15, zy16, Nat.reduceEqDiff, Nat.reduceBEq, Nat.reduceAdd, Nat.reduceMul, Nat.reduceSub, Int.reduceToNat, zy17, zy18, zy19, zy20, Nat.reduceLT, Nat.reduceLeDiff, zy21, zy22, zy23, zy24, zy25, zy26, Int.reduceAdd, Int.reduceMul, Int.reduceSub, Int.reduceNeg, Int.reduceDiv, Int.reduceMod, zy27, rsY]
    exact ⟨rfl, rfl, rowOK_nil _ _⟩
  · rintro n e o N ⟨i, jd, hn, hi, hil, hN, hj, e1, e2, e3, e4, o0, o1, o2, r2⟩
    simp only at hN hj e1 e2 e3 e4 o0 o1 o2 r2
    have hj' : ¬ (jd = 0) ∧ ¬ (jd = 1) ∧ ¬ (jd = 2) ∧ ¬ (jd = N) := by
      rcases hj with h | h
      · omega
      · omega
    obtain ⟨q1, q2, q3, q4⟩ := hj'
    by_cases hlt : i < p.defs.length
    · by_cases h6 : i < 6
      · have hf := take_fold p.defs i hlt
        have hlen : ((p.defs.take i).map cut4).length = i := by rw [List.length_map, List.length_take]; omega
        have hfin : ∀ a : Dfn, a = cut4 (p.defs.getD i Dfn.z) → ∀ o' : Hp, RowOK (hput (rowP o' 31 jd (N + 1) (Dfn.rows ((p.defs.take i).map cut4)) [a.row]) 2 (.box [.nils 6, rowV 31 (N + 1) (Dfn.rows ((p.defs.take (i + 1)).map cut4))])) 31 (N + 1) (Dfn.rows ((p.defs.take (i + 1)).map cut4)) := by
          intro a ha o'
          rw [← hf, ← ha]; exact rowOK_put (rowP_ok _ _ _ _ _) (by omega)
        by_cases h4 : (p.defs.getD i Dfn.z).slots.length ≤ 4
        · rw [cut4_short _ h4] at hf
          simp (maxSteps := 10000000) (disch := first | assumption | omega | (simp only [zy19, zy17, zy18, zy34, zy35, zy36, zy11, zy12, rsL] <;> omega) | with_reducible exact xor8_lt _ _ | with_reducible exact or8_lt _ _ | with_reducible exact toNat_lt8 _ | with_reducible exact rowP_ok _ _ _ _ _ | with_reducible exact rowOK_nil _ _ | ((repeat' apply rowOK_put) <;> first | assumption | exact rowP_ok _ _ _ _ _ | omega) | (simp only [rsI]; done)) only [↓rsW, ↓rsd, rsu, rsX, zy28, zy29, zy30, zy31, zy32, zy33, Int.reduceEq, ↓reduceIte, zy0, zy1, zy2, zy3, zy4, zy5, zy6, zy7, zy8, zy9, zy10, zy11, zy12, zy13, zy14, zy15, zy16, Nat.reduceEqDiff, Nat.reduceBEq, Nat.reduceAdd, Nat.reduceMul, Nat.reduceSub, Int.reduceToNat, zy17, zy18, zy19, zy20, Nat.reduceLT, Nat.reduceLeDiff, zy21, zy22, zy23, zy24, zy25, zy26, Int.reduceAdd, Int.reduceMul, Int.reduceSub, Int.reduceNeg, Int.reduceDiv, Int.reduceMod, zy27, rsY, e1, e2, e3, e4, o0, o1, o2, hf]
          exact ⟨6 - (i + 1), by omega, i + 1, N + 1, rfl, by omega, by omega, by omega, .inr ⟨by omega, by omega⟩, rfl, rfl, hfin _ (cut4_short _ h4).symm _⟩
        · have hf2 : Dfn.rows ((p.defs.take i).map cut4 ++ [Dfn.mk (p.defs.getD i Dfn.z).id (p.defs.getD i Dfn.z).kind (p.defs.getD i Dfn.z).mod (p.defs.getD i Dfn.z).name ((p.defs.getD i Dfn.z).slots.take 4) (p.defs.getD i Dfn.z).result (p.defs.getD i Dfn.z).body (p.defs.getD i Dfn.z).place (p.defs.getD i Dfn.z).layout]) = Dfn.rows ((p.defs.take (i + 1)).map cut4) := by rw [← hf, ← Dfn.rows_snoc]; rfl
          simp (maxSteps := 10000000) (disch := first | assumption | omega | (simp only [zy19, zy17, zy18, zy34, zy35, zy36, zy11, zy12, rsL] <;> omega) | with_reducible exact xor8_lt _ _ | with_reducible exact or8_lt _ _ | with_reducible exact toNat_lt8 _ | with_reducible exact rowP_ok _ _ _ _ _ | with_reducible exact rowOK_nil _ _ | ((repeat' apply rowOK_put) <;> first | assumption | exact rowP_ok _ _ _ _ _ | omega) | (simp only [rsI]; done)) only [↓rsW, ↓rsd, rsu, rsX, zy28, zy29, zy30, zy31, zy32, zy33, Int.reduceEq, ↓reduceIte, zy0, zy1, zy2, zy3, zy4, zy5, zy6, zy7, zy8, zy9, zy10, zy11, zy12, zy13, zy14, zy15, zy16, Nat.reduceEqDiff, Nat.reduceBEq, Nat.reduceAdd, Nat.reduceMul, Nat.reduceSub, Int.reduceToNat, zy17, zy18, zy19, zy20, Nat.reduceLT, Nat.reduceLeDiff, zy21, zy22, zy23, zy24, zy25, zy26, Int.reduceAdd, Int.reduceMul, Int.reduceSub, Int.reduceNeg, Int.reduceDiv, Int.reduceMod, zy27, rsY, e1, e2, e3, e4, o0, o1, o2, hf2]
          exact ⟨6 - (i + 1), by omega, i + 1, N + 1, rfl, by omega, by omega, by omega, .inr ⟨by omega, by omega⟩, rfl, rfl, hfin _ rfl _⟩
      · have hi6 : i = 6 := by omega
        subst hi6
        simp (maxSteps := 10000000) (disch := first | assumption | omega | (simp only [zy19, zy17, zy18, zy34, zy35, zy36, zy11, zy12, rsL] <;> omega) | with_reducible exact xor8_lt _ _ | with_reducible exact or8_lt _ _ | with_reducible exact toNat_lt8 _ | with_reducible exact rowP_ok _ _ _ _ _ | with_reducible exact rowOK_nil _ _ | ((repeat' apply rowOK_put) <;> first | assumption | exact rowP_ok _ _ _ _ _ | omega) | (simp only [rsI]; done)) only [↓rsW, ↓rsd, rsu, rsX, zy28, zy29, zy30, zy31, zy32, zy33, Int.reduceEq, ↓reduceIte, zy0, zy1, zy2, zy3, zy4, zy5, zy6, zy7, zy8, zy9, zy10, zy11, zy12, zy13, zy14, zy15, zy16, Nat.reduceEqDiff, Nat.reduceBEq, Nat.reduceAdd, Nat.reduceMul, Nat.reduceSub, Int.reduceToNat, zy17, zy18, zy19, zy20, Nat.reduceLT, Nat.reduceLeDiff, zy21, zy22, zy23, zy24, zy25, zy26, Int.reduceAdd, Int.reduceMul, Int.reduceSub, Int.reduceNeg, Int.reduceDiv, Int.reduceMod, zy27, rsY, e1, e2, e3, e4, o0, o1, o2]
        rfl
    · have hk' : i = p.defs.length := by omega
      subst hk'
      rw [List.take_length] at o2 r2
      simp (maxSteps := 10000000) (disch := first | assumption | omega | (simp only [zy19, zy17, zy18, zy34, zy35, zy36, zy11, zy12, rsL] <;> omega) | with_reducible exact xor8_lt _ _ | with_reducible exact or8_lt _ _ | with_reducible exact toNat_lt8 _ | with_reducible exact rowP_ok _ _ _ _ _ | with_reducible exact rowOK_nil _ _ | ((repeat' apply rowOK_put) <;> first | assumption | exact rowP_ok _ _ _ _ _ | omega) | (simp only [rsI]; done)) only [↓rsW, ↓rsd, rsu, rsX, zy28, zy29, zy30, zy31, zy32, zy33, Int.reduceEq, ↓reduceIte, zy0, zy1, zy2, zy3, zy4, zy5, zy6, zy7, zy8, zy9, zy10, zy11, zy12, zy13, zy14, zy15, zy16, Nat.reduceEqDiff, Nat.reduceBEq, Nat.reduceAdd, Nat.reduceMul, Nat.reduceSub, Int.reduceToNat, zy17, zy18, zy19, zy20, Nat.reduceLT, Nat.reduceLeDiff, zy21, zy22, zy23, zy24, zy25, zy26, Int.reduceAdd, Int.reduceMul, Int.reduceSub, Int.reduceNeg, Int.reduceDiv, Int.reduceMod, zy27, rsY, e1, e2, e3, e4, o0, o1, o2]
      rw [fewP, List.take_of_length_le hi]
      rfl
def exD1 : Dfn := ⟨idK 1, 0, Idn.z, [80, 111, 105, 110, 116], [⟨idK 3, [120], Typ.z, 0, 0⟩, ⟨idK 4, [121], Typ.z, 0, 0⟩], Typ.z, Exr.z, 0, []⟩
def exD2 : Dfn := ⟨idK 2, 1, Idn.z, [83, 104, 97, 112, 101], [⟨idK 5, [68, 111, 116], Typ.z, 0, 0⟩, ⟨idK 6, [66, 111, 120], ofT (idK 1), 0, 0⟩], Typ.z, Exr.z, 0, []⟩
def exP : Prg := ⟨[], [exD1, exD2]⟩
set_option maxHeartbeats 4000000 in
theorem example_ok (hE : XOK E) : valP (cfW G T E) 91 [] = some (.ret (.agg exP.row)) := by
  refine xrun 3 (m := m91) hE rfl rfl rfl rfl ?_
  simp (maxSteps := 10000000) (disch := first | assumption | omega | (simp only [zy19, zy17, zy18, zy34, zy35, zy36, zy11, zy12, rsL] <;> omega) | with_reducible exact xor8_lt _ _ | with_reducible exact or8_lt _ _ | with_reducible exact toNat_lt8 _ | with_reducible exact rowP_ok _ _ _ _ _ | with_reducible exact rowOK_nil _ _ | ((repeat' apply rowOK_put) <;> first | assumption | exact rowP_ok _ _ _ _ _ | omega) | (simp only [rsI]; done)) only [↓rsW, ↓rsd, rsu, rsX, zy28, zy29, zy30, zy31, zy32, zy33, Int.reduceEq, ↓reduceIte, zy0, zy1, zy2, zy3, zy4, zy5, zy6, zy7, zy8, zy9, zy10, zy11, zy12, zy13, zy14, zy15, zy16, Nat.reduceEqDiff, Nat.reduceBEq, Nat.reduceAdd, Nat.reduceMul, Nat.reduceSub, Int.reduceToNat, zy17, zy18, zy19, zy20, Nat.reduceLT, Nat.reduceLeDiff, zy21, zy22, zy23, zy24, zy25, zy26, Int.reduceAdd, Int.reduceMul, Int.reduceSub, Int.reduceNeg, Int.reduceDiv, Int.reduceMod, zy27, rsY, m91, id_ok hE, of_ok hE]
  rfl
def zerosV : Val := .mk 2 0 [numV 0, numV 0]
def boxV : Val := .mk 3 1 [.mk 2 0 [numV 1, numV (-2)]]
def wrongV : Val := .mk 3 1 [numV 1]
def listV : Val := .mk 4 0 [numV 3, numV 0]
def nineV : Val := .mk 4 0 [numV 9]
def onesV : Val := .mk 4 0 [numV 1, numV 1]
def fiveV : Val := .mk 4 0 [numV 5]
def boolV : Val := .mk 1 1 []
def dotV : Val := .mk 3 0 [numV 0]
theorem okT_of (i : Idn) : okT (ofT i) := by simp [okT, okTs, ofT]
theorem exP_ok : okDs exP.defs := by
  refine ⟨by decide, fun d hd => ?_⟩
  simp only [exP, List.mem_cons, List.not_mem_nil, or_false] at hd
  rcases hd with rfl | rfl
  · refine ⟨by decide, fun s hs => ?_⟩
    simp only [exD1, List.mem_cons, List.not_mem_nil, or_false] at hs
    rcases hs with rfl | rfl
    · exact okT_z
    · exact okT_z
  · refine ⟨by decide, fun s hs => ?_⟩
    simp only [exD2, List.mem_cons, List.not_mem_nil, or_false] at hs
    rcases hs with rfl | rfl
    · exact okT_z
    · exact okT_of _
theorem okV_c : okV' zerosV ∧ okV' boxV ∧ okV' wrongV ∧ okV' listV ∧ okV' nineV ∧ okV' onesV ∧ okV' fiveV ∧ okV' boolV ∧ okV' dotV ∧ ∀ n, okV' (numV n) := by
  simp [okV', okVs, zerosV, boxV, wrongV, listV, nineV, onesV, fiveV, boolV, dotV, numV]
theorem rgV_c : rgV boxV ∧ rgV listV ∧ rgV fiveV := by
  simp [rgV, rgVs, boxV, listV, fiveV, numV]
theorem z1 : zeroV exP.defs (ofT (idK 1)) = ⟨zerosV, 0, 253⟩ := by rfl
theorem z2 : zeroV exP.defs (ofT (idK 2)) = ⟨dotV, 0, 254⟩ := by rfl
theorem e1 : encV fiveV = [129, 4, 128, 129, 1, 128, 129, 5, 128] := by decide
theorem d1 : decT (decV [129, 4, 128, 129, 1, 128, 129, 5, 128]) = .tup [.agg fiveV.row, .int .i64 9, .int .i64 0] := by rfl
set_option maxHeartbeats 8000000 in
theorem lives_ok (hE : XOK E) : valP (cfW G T E) 42 [] = some (.ret (.bool true)) := by
  have hz1 : valP (cfW G T E) 53 [.agg exP.row, .agg (ofT (idK 1)).row] = some (.ret (.tup [.agg zerosV.row, .int .i64 0])) := by have h := zero_ok (G := G) hE exP exP_ok (ofT (idK 1)) (okT_of _); rw [z1] at h; exact h
  have hz2 : valP (cfW G T E) 53 [.agg exP.row, .agg (ofT (idK 2)).row] = some (.ret (.tup [.agg dotV.row, .int .i64 0])) := by have h := zero_ok (G := G) hE exP exP_ok (ofT (idK 2)) (okT_of _); rw [z2] at h; exact h
  have he : valP (cfW G T E) 57 [.agg [V.int .i64 4, .int .i64 0, .sl 3 [(numV 5).row]]] = some (.ret (.own 1 (bytesV [129, 4, 128, 129, 1, 128, 129, 5, 128]))) := by have h := encode_ok (G := G) hE fiveV okV_c.2.2.2.2.2.2.1 rgV_c.2.2 (by decide); rw [e1] at h; exact h
  have hd : valP (cfW G T E) 59 [.sl 1 (bytesV [129, 4, 128, 129, 1, 128, 129, 5, 128])] = some (.ret (.tup [.agg fiveV.row, .int .i64 9, .int .i64 0])) := by have h := decode_ok (G := G) hE [129, 4, 128, 129, 1, 128, 129, 5, 128] (by decide); rw [d1] at h; exact h
  have hf : valP (cfW G T E) 40 [.agg exP.row, .agg (idK 2).row] = some (.ret (.tup [.agg exD2.row, .bool true])) := def_ok (G := G) hE exP (idK 2) (by decide)
  have hv1 : valP (cfW G T E) 36 [.agg exP.row, .agg (ofT (idK 2)).row] = some (.ret (.bool true)) := valid_ok (G := G) hE exP (ofT (idK 2)) (by decide) (okT_of _)
  have hv2 : valP (cfW G T E) 36 [.agg exP.row, .agg (ofT (idK 3)).row] = some (.ret (.bool false)) := valid_ok (G := G) hE exP (ofT (idK 3)) (by decide) (okT_of _)
  have hs1 : valP (cfW G T E) 38 [.agg (ofT (idK 2)).row, .agg (ofT (idK 2)).row] = some (.ret (.bool true)) := same_ok (G := G) hE (ofT (idK 2)) (ofT (idK 2)) (okT_of _) (okT_of _)
  have hs2 : valP (cfW G T E) 38 [.agg (ofT (idK 2)).row, .agg (ofT (idK 1)).row] = some (.ret (.bool false)) := same_ok (G := G) hE (ofT (idK 2)) (ofT (idK 1)) (okT_of _) (okT_of _)
  have hc1 : valP (cfW G T E) 51 [.agg (numV 2).row, .agg [V.int .i64 1, .int .i64 1, .sl 3 []]] = some (.ret (.int .i64 (-1))) := compare_ok (G := G) hE (numV 2) boolV (okV_c.2.2.2.2.2.2.2.2.2 2) okV_c.2.2.2.2.2.2.2.1
  have hc2 : valP (cfW G T E) 51 [.agg [V.int .i64 4, .int .i64 0, .sl 3 [(numV 9).row]], .agg [V.int .i64 4, .int .i64 0, .sl 3 [(numV 1).row, (numV 1).row]]] = some (.ret (.int .i64 (-1))) := compare_ok (G := G) hE nineV onesV okV_c.2.2.2.2.1 okV_c.2.2.2.2.2.1
  have hc3 : valP (cfW G T E) 51 [.agg [V.int .i64 4, .int .i64 0, .sl 3 [(numV 1).row, (numV 1).row]], .agg [V.int .i64 4, .int .i64 0, .sl 3 [(numV 9).row]]] = some (.ret (.int .i64 1)) := compare_ok (G := G) hE onesV nineV okV_c.2.2.2.2.2.1 okV_c.2.2.2.2.1
  have hq1 : valP (cfW G T E) 55 [.agg zerosV.row, .agg [V.int .i64 2, .int .i64 0, .sl 3 [(numV 0).row, (numV 0).row]]] = some (.ret (.bool true)) := veq_ok (G := G) hE zerosV zerosV okV_c.1 okV_c.1
  have hq2 : valP (cfW G T E) 55 [.agg dotV.row, .agg [V.int .i64 3, .int .i64 0, .sl 3 [(numV 0).row]]] = some (.ret (.bool true)) := veq_ok (G := G) hE dotV dotV okV_c.2.2.2.2.2.2.2.2.1 okV_c.2.2.2.2.2.2.2.2.1
  have ha1 : valP (cfW G T E) 44 [.agg exP.row, .agg (ofT (idK 2)).row, .agg [V.int .i64 3, .int .i64 1, .sl 3 [[V.int .i64 2, .int .i64 0, .sl 3 [(numV 1).row, (numV (-2)).row]]]]] = some (.ret (.bool true)) := valid_v (G := G) hE exP exP_ok (ofT (idK 2)) (okT_of _) boxV okV_c.2.1
  have ha2 : valP (cfW G T E) 44 [.agg exP.row, .agg (ofT (idK 2)).row, .agg [V.int .i64 3, .int .i64 1, .sl 3 [(numV 1).row]]] = some (.ret (.bool false)) := valid_v (G := G) hE exP exP_ok (ofT (idK 2)) (okT_of _) wrongV okV_c.2.2.1
  have hw1 : valP (cfW G T E) 49 [.agg [V.int .i64 3, .int .i64 1, .sl 3 [[V.int .i64 2, .int .i64 0, .sl 3 [(numV 1).row, (numV (-2)).row]]]]] = some (.ret (.int .i64 4)) := weight_ok (G := G) hE boxV okV_c.2.1 rgV_c.1
  have hw2 : valP (cfW G T E) 49 [.agg [V.int .i64 4, .int .i64 0, .sl 3 [(numV 3).row, (numV 0).row]]] = some (.ret (.int .i64 5)) := weight_ok (G := G) hE listV okV_c.2.2.2.1 rgV_c.2.1
  have hn : valP (cfW G T E) 47 [.agg [V.int .i64 3, .int .i64 1, .sl 3 [[V.int .i64 2, .int .i64 0, .sl 3 [(numV 1).row, (numV (-2)).row]]]]] = some (.ret (.int .i64 4)) := size_ok (G := G) hE boxV okV_c.2.1
  have hby : (((((((((List.replicate 9 [V.int .u8 ((0 : Nat) : Int)]).set 0 [V.int .u8 ((129 : Nat) : Int)]).set 1 [V.int .u8 ((4 : Nat) : Int)]).set 2 [V.int .u8 ((128 : Nat) : Int)]).set 3 [V.int .u8 ((129 : Nat) : Int)]).set 4 [V.int .u8 ((1 : Nat) : Int)]).set 5 [V.int .u8 ((128 : Nat) : Int)]).set 6 [V.int .u8 ((129 : Nat) : Int)]).set 7 [V.int .u8 ((5 : Nat) : Int)]).set 8 [V.int .u8 ((128 : Nat) : Int)] = bytesV [129, 4, 128, 129, 1, 128, 129, 5, 128] := rfl
  have hnm : (exD2.name == [83, 104, 97, 112, 101]) = true := by decide
  have hfk : fiveV.kids.length = 1 := rfl
  refine xrun 22 (m := m42) hE rfl rfl rfl rfl ?_
  simp (maxSteps := 10000000) (disch := first | assumption | omega | (simp only [zy19, zy17, zy18, zy34, zy35, zy36, zy11, zy12, rsL] <;> omega) | with_reducible exact xor8_lt _ _ | with_reducible exact or8_lt _ _ | with_reducible exact toNat_lt8 _ | with_reducible exact rowP_ok _ _ _ _ _ | with_reducible exact rowOK_nil _ _ | ((repeat' apply rowOK_put) <;> first | assumption | exact rowP_ok _ _ _ _ _ | omega) | (simp only [rsI]; done)) only [↓rsW, ↓rsd, rsu, rsX, zy28, zy29, zy30, zy31, zy32, zy33, Int.reduceEq, ↓reduceIte, zy0, zy1, zy2, zy3, zy4, zy5, zy6, zy7, zy8, zy9, zy10, zy11, zy12, zy13, zy14, zy15, zy16, Nat.reduceEqDiff, Nat.reduceBEq, Nat.reduceAdd, Nat.reduceMul, Nat.reduceSub, Int.reduceToNat, zy17, zy18, zy19, zy20, Nat.reduceLT, Nat.reduceLeDiff, zy21, zy22, zy23, zy24, zy25, zy26, Int.reduceAdd, Int.reduceMul, Int.reduceSub, Int.reduceNeg, Int.reduceDiv, Int.reduceMod, zy27, rsY, m42, id_ok hE, of_ok hE, num_ok hE, example_ok hE, hz1, hz2, he, hd, hf, hv1, hv2, hs1, hs2, hc1, hc2, hc3, hq1, hq2, ha1, ha2, hw1, hw2, hn, hby, hnm, beq_self_eq_true]
end Go.Proofs.Ytoccgkgdhobmfaa.Am.Ru
set_option maxRecDepth 100000
set_option linter.unusedSimpArgs false
set_option linter.unusedVariables false
namespace Go.Proofs.Ytoccgkgdhobmfaa.Am.Ru
open Go
variable {G : Nat → Option (List V)} {E : Nat → Option (CallFn → List V → Hp → Nat → Option Out)}
theorem okT_list {t : Typ} (h : okT t) : okT (listT t) := by simp [okT, okTs, listT, h]
theorem okT_k (k : Int) : okT (Typ.mk k ⟨0, 0, 0⟩ []) := by simp [okT, okTs]
theorem okT_pick (n d : Int) : okT (pickT n d) := by
  unfold pickT
  split
  · exact okT_k 1
  · split
    · exact okT_list okT_z
    · split
      · split
        · exact okT_list (okT_of _)
        · exact okT_of _
      · exact okT_z
theorem tySlots_mem {l : List Int} {i : Nat} : ∀ {k : Nat} {s : Slt}, s ∈ tySlots l i k → ∃ j, j < k ∧ s = tySlot l i j
  | 0, s, h => by cases h
  | k + 1, s, h => by
    rw [tySlots, List.mem_append] at h
    rcases h with h | h
    · obtain ⟨j, hj, e⟩ := tySlots_mem h; exact ⟨j, by omega, e⟩
    · rw [List.mem_singleton] at h; exact ⟨k, by omega, h⟩
theorem tyDefs_mem {l : List Int} : ∀ {i : Nat} {d : Dfn}, d ∈ tyDefs l i → ∃ j, j < i ∧ d = tyDef l j
  | 0, d, h => by cases h
  | i + 1, d, h => by
    rw [tyDefs, List.mem_append] at h
    rcases h with h | h
    · obtain ⟨j, hj, e⟩ := tyDefs_mem h; exact ⟨j, by omega, e⟩
    · rw [List.mem_singleton] at h; exact ⟨i, by omega, h⟩
theorem types_okD (l : List Int) : okDs (typesP l).defs := by
  have hM := tyM_b l
  refine ⟨by show (tyDefs l (tyM l)).length < _; rw [tyDefs_len]; omega, fun d hd => ?_⟩
  obtain ⟨j, hj, rfl⟩ := tyDefs_mem hd
  have hC := tyC_b l j
  refine ⟨by show (tySlots l j (tyC l j)).length < _; rw [tySlots_len]; omega, fun s hs => ?_⟩
  obtain ⟨k, hk, rfl⟩ := tySlots_mem hs
  exact okT_pick _ _
theorem defOf_app (a b : List Dfn) (i : Idn) : defOf (a ++ b) i = (defOf a i).or (defOf b i) := by
  induction a with
  | nil => simp [defOf]
  | cons d a ih =>
    simp only [List.cons_append, defOf]
    split
    · simp
    · exact ih
theorem defOf_types (l : List Int) : ∀ m, defOf (tyDefs l (m + 1)) (idK 1) = some (tyDef l 0)
  | 0 => by simp only [tyDefs, List.nil_append, defOf]; exact if_pos rfl
  | m + 1 => by rw [tyDefs, defOf_app, defOf_types l m]; rfl
theorem defD_types (l : List Int) : defD (typesP l).defs (idK 1) = tyDef l 0 := by
  have hM := tyM_b l
  obtain ⟨m, hm⟩ : ∃ m, tyM l = m + 1 := ⟨tyM l - 1, by omega⟩
  unfold defD; show (defOf (tyDefs l (tyM l)) (idK 1)).getD _ = _
  rw [hm, defOf_types]; rfl
theorem defB_types (l : List Int) : defB (typesP l).defs (idK 1) = true := by
  have hM := tyM_b l
  obtain ⟨m, hm⟩ : ∃ m, tyM l = m + 1 := ⟨tyM l - 1, by omega⟩
  unfold defB; show (defOf (tyDefs l (tyM l)) (idK 1)).isSome = _
  rw [hm, defOf_types]; rfl
theorem few_okD {p : Prg} (h : okDs p.defs) : okDs (fewP p).defs := by
  refine ⟨by show ((p.defs.take 6).map cut4).length < _; rw [List.length_map, List.length_take]; have := h.1; omega, fun d hd => ?_⟩
  obtain ⟨a, ha, rfl⟩ := List.mem_map.1 hd
  have hA := h.2 a (List.mem_of_mem_take ha)
  refine ⟨by show (a.slots.take 4).length < _; rw [List.length_take]; have := hA.1; omega, fun s hs => hA.2 s (List.mem_of_mem_take hs)⟩
def nestT : Nat → Typ
  | 0 => Typ.z
  | n + 1 => listT (nestT n)
theorem okT_nest : ∀ n, okT (nestT n)
  | 0 => okT_z
  | n + 1 => okT_list (okT_nest n)
def tys (t u : Typ) (i : Idn) (c : Nat) : List Typ := [t, u, ofT i, listT t, ofT (idK 1), nestT c]
theorem tys_ok {t u : Typ} (ht : okT t) (hu : okT u) (i : Idn) (c : Nat) (k : Nat) : okT ((tys t u i c).getD k Typ.z) := by
  have h : ∀ x ∈ tys t u i c, okT x := by
    intro x hx
    simp only [tys, List.mem_cons, List.not_mem_nil, or_false] at hx
    rcases hx with rfl | rfl | rfl | rfl | rfl | rfl
    · exact ht
    · exact hu
    · exact okT_of _
    · exact okT_list ht
    · exact okT_of _
    · exact okT_nest _
  by_cases hk : k < (tys t u i c).length
  · simp only [List.getD, List.getElem?_eq_getElem hk, Option.getD_some]; exact h _ (List.getElem_mem hk)
  · simp only [List.getD, List.getElem?_eq_none (Nat.le_of_not_lt hk), Option.getD_none]; exact okT_z
set_option maxHeartbeats 8000000 in
theorem law_types (hE : XOK E) (l : List Int) (hl : okI l) (p : Prg) (hp : okDs p.defs) (id : Idn) (t u : Typ) (ht : okT t) (hu : okT u) (deep : Int) (hd0 : -9223372036854775808 ≤ deep) (hd1 : deep < 9223372036854775808) :
    valP (cfW G T E) 7 [.sl 1 (rowI l), .agg p.row, .agg id.row, .agg t.row, .agg u.row, .int .i64 deep] = some (.ret (.bool true)) := by
  have hA0 := arnd_nonneg deep 4 (by omega)
  have hA1 := arnd_lt deep 4 (by omega)
  have hr := around_ok (G := G) hE deep 4 hd0 hd1 (by omega)
  obtain ⟨c, hc⟩ : ∃ c : Nat, 22 + arnd deep 4 = (c : Int) := ⟨(22 + arnd deep 4).toNat, by omega⟩
  have hty := types_ok (G := G) hE l hl
  have hfw := fewp_ok (G := G) hE p hp
  have hx := types_okD l
  have hy := few_okD hp
  have hxl := hx.1
  have hyl := hy.1
  refine xrun 26 (m := m7) hE rfl rfl rfl rfl ?_
  simp (maxSteps := 10000000) (disch := first | assumption | omega | (simp only [zy19, zy17, zy18, zy34, zy35, zy36, zy11, zy12, rsL] <;> omega) | with_reducible exact xor8_lt _ _ | with_reducible exact or8_lt _ _ | with_reducible exact toNat_lt8 _ | with_reducible exact rowP_ok _ _ _ _ _ | with_reducible exact rowOK_nil _ _ | ((repeat' apply rowOK_put) <;> first | assumption | exact rowP_ok _ _ _ _ _ | omega) | (simp only [rsI]; done)) only [↓rsW, ↓rsd, rsu, rsX, zy28, zy29, zy30, zy31, zy32, zy33, Int.reduceEq, ↓reduceIte, zy0, zy1, zy2, zy3, zy4, zy5, zy6, zy7, zy8, zy9, zy10, zy11, zy12, zy13, zy14, zy15, zy16, Nat.reduceEqDiff, Nat.reduceBEq, Nat.reduceAdd, Nat.reduceMul, Nat.reduceSub, Int.reduceToNat, zy17, zy18, zy19, zy20, Nat.reduceLT, Nat.reduceLeDiff, zy21, zy22, zy23, zy24, zy25, zy26, Int.reduceAdd, Int.reduceMul, Int.reduceSub, Int.reduceNeg, Int.reduceDiv, Int.reduceMod, zy27, rsY, m7, hty, hfw]
  refine go_loop2 26 (fun n s => ∃ i : Nat, n = c - i ∧ i ≤ c ∧ s.N = 7 ∧ s.e 5 = .int .i64 deep ∧ s.e 7 = .ptr 0 0 ∧ s.e 8 = .ptr 1 0 ∧ s.e 9 = .ptr 2 0 ∧ s.e 10 = .ptr 3 0 ∧ s.e 12 = .bool false ∧ s.e 13 = .ptr 4 0 ∧ s.e 14 = .ptr 5 0 ∧ s.e 15 = .ptr 6 0 ∧ s.e 16 = .int .i64 (i : Nat) ∧
    s.o 0 = .box p.row ∧ s.o 1 = .box id.row ∧ s.o 2 = .box t.row ∧ s.o 3 = .box u.row ∧ s.o 4 = .box (typesP l).row ∧ s.o 5 = .box (fewP p).row ∧ (i = 0 ∧ s.o 6 = .box [V.int .i64 0, .int .i64 0, .int .i64 0, .int .i64 0, .nils 5] ∨ 0 < i ∧ s.o 6 = .box (nestT i).row)) c ?_ ?_
  · refine ⟨0, rfl, by omega, rfl, ?_⟩
    simp (maxSteps := 10000000) (disch := first | assumption | omega | (simp only [zy19, zy17, zy18, zy34, zy35, zy36, zy11, zy12, rsL] <;> omega) | with_reducible exact xor8_lt _ _ | with_reducible exact or8_lt _ _ | with_reducible exact toNat_lt8 _ | with_reducible exact rowP_ok _ _ _ _ _ | with_reducible exact rowOK_nil _ _ | ((repeat' apply rowOK_put) <;> first | assumption | exact rowP_ok _ _ _ _ _ | omega) | (simp only [rsI]; done)) only [↓rsW, ↓rsd, rsu, rsX, zy28, zy29, zy30, zy31, zy32, zy33, Int.reduceEq, ↓reduceIte, zy0, zy1, zy2, zy3, zy4, zy5, zy6, zy7, zy8, zy9, zy10, zy11, zy12, zy13, zy14, zy15, zy16, Nat.reduceEqDiff, Nat.reduceBEq, Nat.reduceAdd, Nat.reduceMul, Nat.reduceSub, Int.reduceToNat, zy17, zy18, zy19, zy20, Nat.reduceLT, Nat.reduceLeDiff, zy21, zy22, zy23, zy24, zy25, zy26, Int.reduceAdd, Int.reduceMul, Int.reduceSub, Int.reduceNeg, Int.reduceDiv, Int.reduceMod, zy27, rsY]
    exact ⟨rfl, .inl trivial⟩
  · rintro n e o N ⟨i, hn, hi, rfl, e5, e7, e8, e9, e10, e12, e13, e14, e15, e16, o0, o1, o2, o3, o4, o5, h6⟩
    simp only at e5 e7 e8 e9 e10 e12 e13 e14 e15 e16 o0 o1 o2 o3 o4 o5 h6
    by_cases hlt : i < c
    · rcases h6 with ⟨h0, o6⟩ | ⟨h0, o6⟩
      · subst h0
        have hz := list_ok (G := G) hE Typ.z
        rw [Tz_row] at hz
        simp (maxSteps := 10000000) (disch := first | assumption | omega | (simp only [zy19, zy17, zy18, zy34, zy35, zy36, zy11, zy12, rsL] <;> omega) | with_reducible exact xor8_lt _ _ | with_reducible exact or8_lt _ _ | with_reducible exact toNat_lt8 _ | with_reducible exact rowP_ok _ _ _ _ _ | with_reducible exact rowOK_nil _ _ | ((repeat' apply rowOK_put) <;> first | assumption | exact rowP_ok _ _ _ _ _ | omega) | (simp only [rsI]; done)) only [↓rsW, ↓rsd, rsu, rsX, zy28, zy29, zy30, zy31, zy32, zy33, Int.reduceEq, ↓reduceIte, zy0, zy1, zy2, zy3, zy4, zy5, zy6, zy7, zy8, zy9, zy10, zy11, zy12, zy13, zy14, zy15, zy16, Nat.reduceEqDiff, Nat.reduceBEq, Nat.reduceAdd, Nat.reduceMul, Nat.reduceSub, Int.reduceToNat, zy17, zy18, zy19, zy20, Nat.reduceLT, Nat.reduceLeDiff, zy21, zy22, zy23, zy24, zy25, zy26, Int.reduceAdd, Int.reduceMul, Int.reduceSub, Int.reduceNeg, Int.reduceDiv, Int.reduceMod, zy27, rsY, e5, e7, e8, e9, e10, e12, e13, e14, e15, e16, o0, o1, o2, o3, o4, o5, o6, hr, hc, hz]
        exact ⟨c - 1, by omega, 1, rfl, by omega, rfl, .inr ⟨by omega, rfl⟩⟩
      · simp (maxSteps := 10000000) (disch := first | assumption | omega | (simp only [zy19, zy17, zy18, zy34, zy35, zy36, zy11, zy12, rsL] <;> omega) | with_reducible exact xor8_lt _ _ | with_reducible exact or8_lt _ _ | with_reducible exact toNat_lt8 _ | with_reducible exact rowP_ok _ _ _ _ _ | with_reducible exact rowOK_nil _ _ | ((repeat' apply rowOK_put) <;> first | assumption | exact rowP_ok _ _ _ _ _ | omega) | (simp only [rsI]; done)) only [↓rsW, ↓rsd, rsu, rsX, zy28, zy29, zy30, zy31, zy32, zy33, Int.reduceEq, ↓reduceIte, zy0, zy1, zy2, zy3, zy4, zy5, zy6, zy7, zy8, zy9, zy10, zy11, zy12, zy13, zy14, zy15, zy16, Nat.reduceEqDiff, Nat.reduceBEq, Nat.reduceAdd, Nat.reduceMul, Nat.reduceSub, Int.reduceToNat, zy17, zy18, zy19, zy20, Nat.reduceLT, Nat.reduceLeDiff, zy21, zy22, zy23, zy24, zy25, zy26, Int.reduceAdd, Int.reduceMul, Int.reduceSub, Int.reduceNeg, Int.reduceDiv, Int.reduceMod, zy27, rsY, e5, e7, e8, e9, e10, e12, e13, e14, e15, e16, o0, o1, o2, o3, o4, o5, o6, hr, hc, list_ok hE]
        exact ⟨c - (i + 1), by omega, i + 1, rfl, by omega, rfl, .inr ⟨by omega, rfl⟩⟩
    · have hi' : i = c := by omega
      subst hi'
      have o6 := (h6.resolve_left (by omega)).2
      have hrow : ((((((List.replicate 6 [V.int .i64 0, V.int .i64 0, V.int .i64 0, V.int .i64 0, V.nils 5]).set 0 t.row).set 1 u.row).set 2 (ofT id).row).set 3 (listT t).row).set 4 (ofT (idK 1)).row).set 5 (nestT i).row = Typ.rows (tys t u id i) := rfl
      have hlen : (tys t u id i).length = 6 := rfl
      simp (maxSteps := 10000000) (disch := first | assumption | omega | (simp only [zy19, zy17, zy18, zy34, zy35, zy36, zy11, zy12, rsL] <;> omega) | with_reducible exact xor8_lt _ _ | with_reducible exact or8_lt _ _ | with_reducible exact toNat_lt8 _ | with_reducible exact rowP_ok _ _ _ _ _ | with_reducible exact rowOK_nil _ _ | ((repeat' apply rowOK_put) <;> first | assumption | exact rowP_ok _ _ _ _ _ | omega) | (simp only [rsI]; done)) only [↓rsW, ↓rsd, rsu, rsX, zy28, zy29, zy30, zy31, zy32, zy33, Int.reduceEq, ↓reduceIte, zy0, zy1, zy2, zy3, zy4, zy5, zy6, zy7, zy8, zy9, zy10, zy11, zy12, zy13, zy14, zy15, zy16, Nat.reduceEqDiff, Nat.reduceBEq, Nat.reduceAdd, Nat.reduceMul, Nat.reduceSub, Int.reduceToNat, zy17, zy18, zy19, zy20, Nat.reduceLT, Nat.reduceLeDiff, zy21, zy22, zy23, zy24, zy25, zy26, Int.reduceAdd, Int.reduceMul, Int.reduceSub, Int.reduceNeg, Int.reduceDiv, Int.reduceMod, zy27, rsY, e5, e7, e8, e9, e10, e12, e13, e14, e15, e16, o0, o1, o2, o3, o4, o5, o6, hr, hc, list_ok hE, of_ok hE, id_ok hE, hrow]
      clear h6 hrow
      generalize i = c at *
      refine go_loop2 26 (fun n s => ∃ i : Nat, n = 6 - i ∧ i ≤ 6 ∧ s.N = 8 ∧ s.e 8 = .ptr 1 0 ∧ s.e 12 = .bool false ∧ s.e 13 = .ptr 4 0 ∧ s.e 14 = .ptr 5 0 ∧ s.e 17 = .vsl 7 0 6 ∧ s.e 18 = .int .i64 (i : Nat) ∧ s.o 1 = .box id.row ∧ s.o 4 = .box (typesP l).row ∧ s.o 5 = .box (fewP p).row ∧ s.o 7 = .vec 5 (Typ.rows (tys t u id c))) 6 ?_ ?_
      · refine ⟨0, rfl, by omega, rfl, ?_⟩
        simp (maxSteps := 10000000) (disch := first | assumption | omega | (simp only [zy19, zy17, zy18, zy34, zy35, zy36, zy11, zy12, rsL] <;> omega) | with_reducible exact xor8_lt _ _ | with_reducible exact or8_lt _ _ | with_reducible exact toNat_lt8 _ | with_reducible exact rowP_ok _ _ _ _ _ | with_reducible exact rowOK_nil _ _ | ((repeat' apply rowOK_put) <;> first | assumption | exact rowP_ok _ _ _ _ _ | omega) | (simp only [rsI]; done)) only [↓rsW, ↓rsd, rsu, rsX, zy28, zy29, zy30, zy31, zy32, zy33, Int.reduceEq, ↓reduceIte, zy0, zy1, zy2, zy3, zy4, zy5, zy6, zy7, zy8, zy9, zy10, zy11, zy12, zy13, zy14, zy15, zy16, Nat.reduceEqDiff, Nat.reduceBEq, Nat.reduceAdd, Nat.reduceMul, Nat.reduceSub, Int.reduceToNat, zy17, zy18, zy19, zy20, Nat.reduceLT, Nat.reduceLeDiff, zy21, zy22, zy23, zy24, zy25, zy26, Int.reduceAdd, Int.reduceMul, Int.reduceSub, Int.reduceNeg, Int.reduceDiv, Int.reduceMod, zy27, rsY]
        exact ⟨e8, e12, e13, e14, by rw [hlen], rfl, o1, o4, o5⟩
      · clear e5 e7 e8 e9 e10 e12 e13 e14 e15 e16 o0 o1 o2 o3 o4 o5 o6
        rintro n e o N ⟨i, hn, hi, rfl, e8, e12, e13, e14, e17, e18, o1, o4, o5, o7⟩
        simp only at e8 e12 e13 e14 e17 e18 o1 o4 o5 o7
        by_cases hlt : i < 6
        · have hti := tys_ok ht hu id c i
          have hv1 := valid_ok (G := G) hE (typesP l) _ hxl hti
          have hv2 := rvalid_ok (G := G) hE (typesP l) _ hxl hti
          have hv3 := valid_ok (G := G) hE (fewP p) _ hyl hti
          have hv4 := rvalid_ok (G := G) hE (fewP p) _ hyl hti
          generalize hq1 : vT (typesP l).defs 24 ((tys t u id c).getD i Typ.z) = q1 at hv1 hv2
          generalize hq2 : vT (fewP p).defs 24 ((tys t u id c).getD i Typ.z) = q2 at hv3 hv4
          simp (maxSteps := 10000000) (disch := first | assumption | omega | (simp only [zy19, zy17, zy18, zy34, zy35, zy36, zy11, zy12, rsL] <;> omega) | with_reducible exact xor8_lt _ _ | with_reducible exact or8_lt _ _ | with_reducible exact toNat_lt8 _ | with_reducible exact rowP_ok _ _ _ _ _ | with_reducible exact rowOK_nil _ _ | ((repeat' apply rowOK_put) <;> first | assumption | exact rowP_ok _ _ _ _ _ | omega) | (simp only [rsI]; done)) only [↓rsW, ↓rsd, rsu, rsX, zy28, zy29, zy30, zy31, zy32, zy33, Int.reduceEq, ↓reduceIte, zy0, zy1, zy2, zy3, zy4, zy5, zy6, zy7, zy8, zy9, zy10, zy11, zy12, zy13, zy14, zy15, zy16, Nat.reduceEqDiff, Nat.reduceBEq, Nat.reduceAdd, Nat.reduceMul, Nat.reduceSub, Int.reduceToNat, zy17, zy18, zy19, zy20, Nat.reduceLT, Nat.reduceLeDiff, zy21, zy22, zy23, zy24, zy25, zy26, Int.reduceAdd, Int.reduceMul, Int.reduceSub, Int.reduceNeg, Int.reduceDiv, Int.reduceMod, zy27, rsY, e8, e12, e13, e14, e17, e18, o1, o4, o5, o7, hv1, hv2, hv3, hv4, beq_self_eq_true]
          refine go_loop2 26 (fun n s => ∃ k : Nat, n = 6 - k ∧ k ≤ 6 ∧ s.N = 8 ∧ s.e 8 = .ptr 1 0 ∧ s.e 12 = .bool false ∧ s.e 13 = .ptr 4 0 ∧ s.e 14 = .ptr 5 0 ∧ s.e 17 = .vsl 7 0 6 ∧ s.e 18 = .int .i64 (i : Nat) ∧ s.e 19 = .int .i64 (k : Nat) ∧ s.o 1 = .box id.row ∧ s.o 4 = .box (typesP l).row ∧ s.o 5 = .box (fewP p).row ∧ s.o 7 = .vec 5 (Typ.rows (tys t u id c))) 6 ?_ ?_
          · refine ⟨0, rfl, by omega, rfl, ?_⟩
            simp (maxSteps := 10000000) (disch := first | assumption | omega | (simp only [zy19, zy17, zy18, zy34, zy35, zy36, zy11, zy12, rsL] <;> omega) | with_reducible exact xor8_lt _ _ | with_reducible exact or8_lt _ _ | with_reducible exact toNat_lt8 _ | with_reducible exact rowP_ok _ _ _ _ _ | with_reducible exact rowOK_nil _ _ | ((repeat' apply rowOK_put) <;> first | assumption | exact rowP_ok _ _ _ _ _ | omega) | (simp only [rsI]; done)) only [↓rsW, ↓rsd, rsu, rsX, zy28, zy29, zy30, zy31, zy32, zy33, Int.reduceEq, ↓reduceIte, zy0, zy1, zy2, zy3, zy4, zy5, zy6, zy7, zy8, zy9, zy10, zy11, zy12, zy13, zy14, zy15, zy16, Nat.reduceEqDiff, Nat.reduceBEq, Nat.reduceAdd, Nat.reduceMul, Nat.reduceSub, Int.reduceToNat, zy17, zy18, zy19, zy20, Nat.reduceLT, Nat.reduceLeDiff, zy21, zy22, zy23, zy24, zy25, zy26, Int.reduceAdd, Int.reduceMul, Int.reduceSub, Int.reduceNeg, Int.reduceDiv, Int.reduceMod, zy27, rsY]
            exact ⟨e8, e12, e13, e14, e17, e18, rfl, o1, o4, o5, o7⟩
          · clear e8 e12 e13 e14 e17 e18 o1 o4 o5 o7
            rintro n e o N ⟨k, hn, hk, rfl, e8, e12, e13, e14, e17, e18, e19, o1, o4, o5, o7⟩
            simp only at e8 e12 e13 e14 e17 e18 e19 o1 o4 o5 o7
            by_cases hkt : k < 6
            · have htk := tys_ok ht hu id c k
              have hs1 := same_ok (G := G) hE _ _ hti htk
              have hs2 := rsame_ok (G := G) hE _ _ hti htk
              simp (maxSteps := 10000000) (disch := first | assumption | omega | (simp only [zy19, zy17, zy18, zy34, zy35, zy36, zy11, zy12, rsL] <;> omega) | with_reducible exact xor8_lt _ _ | with_reducible exact or8_lt _ _ | with_reducible exact toNat_lt8 _ | with_reducible exact rowP_ok _ _ _ _ _ | with_reducible exact rowOK_nil _ _ | ((repeat' apply rowOK_put) <;> first | assumption | exact rowP_ok _ _ _ _ _ | omega) | (simp only [rsI]; done)) only [↓rsW, ↓rsd, rsu, rsX, zy28, zy29, zy30, zy31, zy32, zy33, Int.reduceEq, ↓reduceIte, zy0, zy1, zy2, zy3, zy4, zy5, zy6, zy7, zy8, zy9, zy10, zy11, zy12, zy13, zy14, zy15, zy16, Nat.reduceEqDiff, Nat.reduceBEq, Nat.reduceAdd, Nat.reduceMul, Nat.reduceSub, Int.reduceToNat, zy17, zy18, zy19, zy20, Nat.reduceLT, Nat.reduceLeDiff, zy21, zy22, zy23, zy24, zy25, zy26, Int.reduceAdd, Int.reduceMul, Int.reduceSub, Int.reduceNeg, Int.reduceDiv, Int.reduceMod, zy27, rsY, e8, e12, e13, e14, e17, e18, e19, o1, o4, o5, o7, hs1, hs2, beq_self_eq_true]
              exact ⟨6 - (k + 1), by omega, k + 1, rfl, by omega, rfl⟩
            · have hk6 : k = 6 := by omega
              subst hk6
              simp (maxSteps := 10000000) (disch := first | assumption | omega | (simp only [zy19, zy17, zy18, zy34, zy35, zy36, zy11, zy12, rsL] <;> omega) | with_reducible exact xor8_lt _ _ | with_reducible exact or8_lt _ _ | with_reducible exact toNat_lt8 _ | with_reducible exact rowP_ok _ _ _ _ _ | with_reducible exact rowOK_nil _ _ | ((repeat' apply rowOK_put) <;> first | assumption | exact rowP_ok _ _ _ _ _ | omega) | (simp only [rsI]; done)) only [↓rsW, ↓rsd, rsu, rsX, zy28, zy29, zy30, zy31, zy32, zy33, Int.reduceEq, ↓reduceIte, zy0, zy1, zy2, zy3, zy4, zy5, zy6, zy7, zy8, zy9, zy10, zy11, zy12, zy13, zy14, zy15, zy16, Nat.reduceEqDiff, Nat.reduceBEq, Nat.reduceAdd, Nat.reduceMul, Nat.reduceSub, Int.reduceToNat, zy17, zy18, zy19, zy20, Nat.reduceLT, Nat.reduceLeDiff, zy21, zy22, zy23, zy24, zy25, zy26, Int.reduceAdd, Int.reduceMul, Int.reduceSub, Int.reduceNeg, Int.reduceDiv, Int.reduceMod, zy27, rsY, e8, e12, e13, e14, e17, e18, e19, o1, o4, o5, o7]
              exact ⟨6 - (i + 1), by omega, i + 1, rfl, by omega, rfl⟩
        · have hi6 : i = 6 := by omega
          subst hi6
          have hf1 := def_ok (G := G) hE (fewP p) id hyl
          have hf2 := rdef_ok (G := G) hE (fewP p) id hyl
          have hf3 := def_ok (G := G) hE (typesP l) (idK 1) hxl
          rw [defD_types, defB_types] at hf3
          have hnm : ((tyDef l 0).name == [80, 111, 105, 110, 116]) = true := rfl
          have hli := lives_ok (G := G) hE
          generalize defD (fewP p).defs id = D at hf1 hf2
          generalize defB (fewP p).defs id = b at hf1 hf2
          simp (maxSteps := 10000000) (disch := first | assumption | omega | (simp only [zy19, zy17, zy18, zy34, zy35, zy36, zy11, zy12, rsL] <;> omega) | with_reducible exact xor8_lt _ _ | with_reducible exact or8_lt _ _ | with_reducible exact toNat_lt8 _ | with_reducible exact rowP_ok _ _ _ _ _ | with_reducible exact rowOK_nil _ _ | ((repeat' apply rowOK_put) <;> first | assumption | exact rowP_ok _ _ _ _ _ | omega) | (simp only [rsI]; done)) only [↓rsW, ↓rsd, rsu, rsX, zy28, zy29, zy30, zy31, zy32, zy33, Int.reduceEq, ↓reduceIte, zy0, zy1, zy2, zy3, zy4, zy5, zy6, zy7, zy8, zy9, zy10, zy11, zy12, zy13, zy14, zy15, zy16, Nat.reduceEqDiff, Nat.reduceBEq, Nat.reduceAdd, Nat.reduceMul, Nat.reduceSub, Int.reduceToNat, zy17, zy18, zy19, zy20, Nat.reduceLT, Nat.reduceLeDiff, zy21, zy22, zy23, zy24, zy25, zy26, Int.reduceAdd, Int.reduceMul, Int.reduceSub, Int.reduceNeg, Int.reduceDiv, Int.reduceMod, zy27, rsY, e8, e12, e13, e14, e17, e18, o1, o4, o5, o7, hf1, hf2, hf3, hli, hnm, id_ok hE, beq_self_eq_true]
end Go.Proofs.Ytoccgkgdhobmfaa.Am.Ru
set_option maxRecDepth 100000
namespace Go.Proofs.Ytoccgkgdhobmfaa.Am
open Go
/-- Every function of the table is the program's. -/
noncomputable def tblOk : Bool := (List.range tbl.length).all fun f => match T f with
  | some m => chkF Go.Proofs.Try.prog f m
  | none => true
theorem tbl_ok : tblOk = true := by kernel_rfl
theorem T_ok : ∀ f m, T f = some m → chkF Go.Proofs.Try.prog f m = true := by
  intro f m h
  have hf : f < tbl.length := by
    rcases Nat.lt_or_ge f tbl.length with h' | h'
    · exact h'
    · unfold T at h; rw [List.getElem?_eq_none h'] at h; cases h
  have := List.all_eq_true.1 tbl_ok f (List.mem_range.2 hf)
  rw [h] at this
  exact this
end Go.Proofs.Ytoccgkgdhobmfaa.Am
set_option maxRecDepth 100000
set_option linter.unusedVariables false
set_option linter.unusedSimpArgs false
namespace Go.Proofs.Ytoccgkgdhobmfaa.Am.Ru
open Go Go.ChangeShapes Go.WideShapes Go.ChangeAt Go.RowKit
/-- The memory that the arguments lie in. -/
abbrev WM (W : World) : Mem := fun b => W.heap[b]?
theorem cellAt_cell {W : World} {b off : Nat} {v : Value} (h : W.cell? ⟨b, off, none⟩ = some v) : cellAt (WM W) b off = some v := by
  unfold World.cell? at h
  unfold cellAt WM
  split <;> simp_all
/-- What a call that answers true leaves. -/
theorem calls_true {P : Program} {G : Nat → Option (List V)} {cf : CallFn} (hX : CallOk P G cf) {f : Nat} {a : List V} {vargs : Array Value} {W : World}
    (h : valP cf f a = some (.ret (.bool true))) (hG : GOK (WM W) G) (hl : vargs.size = a.length) (hr : ∀ (j : Nat) v, a[j]? = some v → PRel (WM W) v (vargs.getD j undef)) :
    Calls P f vargs W (fun e W' => e = .returned (.bool true) ∧ Kp (fun _ => False) W W') := by
  unfold valP at h
  split at h
  · rename_i v o' hcf
    simp only [Option.some.injEq, CV.ret.injEq] at h
    subst h
    have hok : Ok (WM W) (fun _ => none) 0 (fun _ => False) W dd W :=
      ⟨⟨fun b x hx => hx, fun i k hk => (nomatch hk), fun i hi => absurd rfl hi, fun i j ki kj _ _ hk => (nomatch hk)⟩, Kp.refl _ _⟩
    refine ((hX f a dd 0 _ hcf).2 (WM W) (fun _ => none) W (fun _ => False) vargs hok hG hl (fun j v hj => .pure (hr j v hj))).mono ?_
    rintro e W' ⟨x, M', β', N', he, _, _, _, _, hk, hret⟩
    have : PRel M' (.bool true) x := hret
    cases this
    exact ⟨he, hk.kp⟩
  all_goals simp at h
/-- What a call that keeps the old blocks and answers true leaves, as the rows say it. -/
theorem post_true {H : Type} {enc : TypeId × Value → H} {P : Program} {f : Func} {s : ChangeSpec} {apart fresh handsOn again : Bool} {W W' : World} {args : Array Value} {ds : List (DataW H)} {before : List MemPlace} {tb : TypeId}
    (K : Kids P (· < P.types.size)) (hz : ∀ t e, t < P.types.size → P.underlying t = some (.slice e) → 0 < P.cellsOf e) (hts : ∀ t ∈ f.params.toList, t < P.types.size)
    (hW : DataW.Whole enc P f.params.toList [] apart W args.toList ds [] before) (hv : s.vars = [])
    (hs : s.fn H ds = { results := [.lit (.bool true)], args := ds })
    (hk : Kp (fun _ => False) W W') (hres : f.resultTypes = #[tb]) (hb : P.underlying tb = some .bool) :
    s.post enc P f apart fresh handsOn again W args (.bool true) W' := by
  have hold : ∀ b, b < W.heap.size → W'.heap[b]? = W.heap[b]? := fun b hb => hk.block b hb (fun h => h)
  have hlt := hW.lt
  have hcell : ∀ b off, b < W.heap.size → W'.cell? ⟨b, off, none⟩ = W.cell? ⟨b, off, none⟩ := fun b off hb => by unfold World.cell?; simp only [hold b hb]
  have hsame : ∀ p ∈ before, W.sameAt W' p := by
    intro p hp
    have := hlt p hp
    cases p with
    | cell b off => exact hcell b off this
    | map b => exact hold b this
  have hW0 := hW
  obtain ⟨pa, pv, hA, hV, hpb, hfr, hnd⟩ := hW
  obtain ⟨-, rfl⟩ := trodVars_none hV
  obtain rfl : before = pa := by simpa using hpb
  have carryT : ∀ {t v d ps} {sp : Nat → Bool}, DataW.Trod enc P W 0 sp true t v d ps → (∀ p ∈ ps, W.sameAt W' p) → DataW.Trod enc P W' 0 sp true t v d ps :=
    fun ⟨n, hn⟩ hp => ⟨n, DataW.trod_carry n _ _ _ hn hp⟩
  have carry : ∀ {sp : Nat → Bool} {ts vs ds ps}, DataW.TrodAll enc P W 0 sp true ts vs ds ps → (∀ p ∈ ps, W.sameAt W' p) → DataW.TrodAll enc P W' 0 sp true ts vs ds ps := by
    intro sp ts
    induction ts with
    | nil => intro vs ds ps h hp
             obtain ⟨rfl, rfl, rfl⟩ := trodAll_nil h
             exact trodAll_mk0
    | cons t ts ih =>
      intro vs ds ps h hp
      obtain ⟨v, vs1, d, ds1, p, q, rfl, rfl, rfl, h1, h2⟩ := trodAll_cons h
      exact ⟨p, q, carryT h1 (fun x hx => hp x (List.mem_append_left _ hx)), ih h2 (fun x hx => hp x (List.mem_append_right _ hx)), rfl⟩
  have hargs : ∀ sp : Nat → Bool, (∀ p ∈ before, sp p.block = true) → DataW.TrodAll enc P W' 0 sp true f.params.toList args.toList ds before :=
    fun sp hsp => carry (DataW.TrodAll.respare K hz hts hA hsp) hsame
  have hR : ∀ (b : Nat) (sp : Nat → Bool) (hd : Bool), DataW.TrodAll enc P W' b sp hd f.resultTypes.toList ((Value.bool true).resultList f.resultTypes.size) [.lit (.bool true)] [] := by
    intro b sp hd
    rw [hres]
    exact trodAll_cons_mk (shut_bool hb _) trodAll_mk0
  have hkb : W.keptBut W' (fun p => p ∈ before ∧ (p ∈ ([] : List MemPlace) ∨ p ∈ before ∨ p ∈ ([] : List MemPlace))) := by
    refine ⟨hk.os, hk.output, fun i hi => ?_⟩
    rw [hold i hi]
    generalize W.heap[i]? = q
    cases q with
    | none => exact rfl
    | some q =>
      cases q with
      | cells c t fr => exact ⟨rfl, rfl, rfl, fun _ _ => rfl⟩
      | map es clock => exact Or.inr ⟨rfl, rfl⟩
      | _ => exact rfl
  have hW1 : DataW.Whole enc P f.params.toList s.vars apart W args.toList ds [] before := by rw [hv]; exact hW0
  have hlast : ∀ sp : Nat → Bool, DataW.TrodVars enc P W' sp s.vars ([] : List (DataW H)) [] := by rw [hv]; exact fun _ => rfl
  refine ⟨ds, [], before, [], before, [], hW1, ?_, ?_, ?_, hkb, fun _ => ?_⟩
  · rw [List.append_nil, hs]; exact hR _ _ _
  · rw [List.append_nil, hs]; exact hargs _ (fun p hp => by simpa using hlt p hp)
  · rw [List.append_nil, hs]; exact hlast _
  · refine ⟨ok_one hres rfl (okWide_bool_mk hb _), _, _, ([] ++ before) ++ [], ⟨[] ++ before, [], trodAll_append (hargs _ (fun _ _ => rfl)) (hR _ _ _), hlast _, rfl, ?_, ?_⟩, ?_⟩
    · intro b off hp
      have hp' : MemPlace.cell b off ∈ before := by simpa using hp
      have h0 := hfr b off hp'
      have hb' := hlt _ hp'
      unfold World.frozen? at h0 ⊢
      rw [hold b hb']
      exact h0
    · intro ha
      simpa using hnd ha
    · intro p hp _
      simpa using hp
end Go.Proofs.Ytoccgkgdhobmfaa.Am.Ru
set_option maxRecDepth 100000
set_option linter.unusedVariables false
set_option linter.unusedSimpArgs false
namespace Go.Proofs.Ytoccgkgdhobmfaa.Am.Ru
open Go Go.ChangeShapes Go.WideShapes Go.ChangeAt Go.RowKit
section
variable {H : Type} {enc : TypeId × Value → H} {P : Program} {W : World} {r : Reach} {b0 : Nat} {sp : Nat → Bool} {held : Bool} {base : Nat}
theorem spot_none {a : Addr} {v : Value} (h : W.cell? a = some v) : a.spot = none := by
  unfold World.cell? at h
  cases hs : a.spot with
  | none => rfl
  | some x =>
    rw [hs] at h
    split at h <;> simp at h
theorem arg_i64 {t : TypeId} {v : Value} {d : DataW H} {p : List MemPlace} (ht : P.underlying t = some (.int .i64)) (hval : Value.okWide P W r b0 t v) (hd : DataW.Trod enc P W base sp held t v d p) :
    ∃ n : Int, PRel (WM W) (.int .i64 n) v ∧ -9223372036854775808 ≤ n ∧ n < 9223372036854775808 := by
  obtain ⟨n, rfl, -, -, hw⟩ := open_int ht hval hd
  simp only [Lit.wf, Bool.and_eq_true, decide_eq_true_eq] at hw
  have h1 : (-9223372036854775808 : Int) ≤ n := hw.1
  have h2 : n ≤ (9223372036854775807 : Int) := hw.2
  exact ⟨n, PRel.int _ _, h1, by omega⟩
end
end Go.Proofs.Ytoccgkgdhobmfaa.Am.Ru
set_option maxRecDepth 100000
set_option linter.unusedVariables false
set_option linter.unusedSimpArgs false
namespace Go.Proofs.Ytoccgkgdhobmfaa.Am.Ru
open Go Go.ChangeShapes Go.WideShapes Go.ChangeAt Go.RowKit
/-- The types that hold no pointer, map, function or interface. -/
def fineD (l : List TypeId) : Option TypeDesc → Bool
  | some (.int _) | some .bool | some .string => true
  | some (.slice e) => l.contains e
  | some (.struct fs) => fs.toList.all fun f => l.contains f.type
  | _ => false
def fineB (P : Program) (l : List TypeId) : Bool := l.all fun t => decide (t < P.types.size) && fineD l (P.underlying t)
def sumF (c : Nat → Nat) : Nat → Nat
  | 0 => 0
  | n + 1 => sumF c n + c n
def catF (ls : Nat → List V) : Nat → List V
  | 0 => []
  | n + 1 => catF ls n ++ ls n
/-- The cells of a value of a type, and a count of its parts. -/
inductive ShV (P : Program) : TypeId → List V → Nat → Prop
  | int {t : TypeId} {k : IntKind} {n : Int} (ht : P.underlying t = some (.int k)) (hw : (Lit.int k n).wf = true) : ShV P t [.int k n] 1
  | bool {t : TypeId} {b : Bool} (ht : P.underlying t = some .bool) : ShV P t [.bool b] 1
  | str {t : TypeId} {s : List UInt8} (ht : P.underlying t = some .string) (hs : s.length ≤ 9223372036854775807) : ShV P t [.str s] (s.length + 1)
  | sl {t e : TypeId} (rows : List (List V)) (c : Nat → Nat) (ht : P.underlying t = some (.slice e)) (hl : rows.length ≤ 9223372036854775807) (hr : ∀ (i : Nat) r, rows[i]? = some r → ShV P e r (c i)) : ShV P t [.sl (P.cellsOf e) rows] (sumF c rows.length + 1)
  | struct {t : TypeId} {fs : Array Field} (ls : Nat → List V) (c : Nat → Nat) (ht : P.underlying t = some (.struct fs)) (hr : ∀ (i : Nat) f, fs[i]? = some f → ShV P f.type (ls i) (c i)) : ShV P t (catF ls fs.size) (sumF c fs.size + 1)
def CR (W : World) (cs : List Value) (vs : List V) : Prop := vs.length = cs.length ∧ ∀ (j : Nat) v, vs[j]? = some v → (cs.getD j undef).oneCell' = true ∧ PRel (WM W) v (cs.getD j undef)
theorem CR.nil {W : World} : CR W [] [] := ⟨rfl, fun j v h => by simp at h⟩
theorem CR.one {W : World} {x : Value} {v : V} (h1 : x.oneCell' = true) (h2 : PRel (WM W) v x) : CR W [x] [v] := by
  refine ⟨rfl, fun j v' h => ?_⟩
  match j, h with
  | 0, h => obtain rfl := Option.some.inj h; exact ⟨h1, h2⟩
theorem CR.app {W : World} {cs ds : List Value} {vs ws : List V} (h : CR W cs vs) (k : CR W ds ws) : CR W (cs ++ ds) (vs ++ ws) := by
  refine ⟨by rw [List.length_append, List.length_append, h.1, k.1], fun j v hj => ?_⟩
  by_cases hlt : j < vs.length
  · rw [List.getElem?_append_left hlt] at hj
    have := h.2 j v hj
    have hc : j < cs.length := by rw [← h.1]; exact hlt
    simp only [List.getD, List.getElem?_append_left hc]; exact this
  · have hge : vs.length ≤ j := Nat.le_of_not_lt hlt
    rw [List.getElem?_append_right hge] at hj
    have hc : cs.length ≤ j := by rw [← h.1]; exact hge
    have := k.2 _ v hj
    simp only [List.getD, List.getElem?_append_right hc]; rw [← h.1]; exact this
section
variable {H : Type} {enc : TypeId × Value → H} {P : Program} {W : World} {l : List TypeId}
theorem bulk_sum (xs : List (DataW H)) (c : Nat → Nat) (h : ∀ (i : Nat) x, xs[i]? = some x → c i ≤ Rows.uptoBulk x) : sumF c xs.length ≤ Rows.uptoBulkAll xs := by
  have key : ∀ (n : Nat), n ≤ xs.length → sumF c n ≤ Rows.uptoBulkAll (xs.take n) := by
    have app : ∀ (a b : List (DataW H)), Rows.uptoBulkAll (a ++ b) = Rows.uptoBulkAll a + Rows.uptoBulkAll b := by
      intro a b
      induction a with
      | nil => simp [Rows.uptoBulkAll]
      | cons x a ih => simp only [List.cons_append, Rows.uptoBulkAll, ih]; omega
    intro n
    induction n with
    | zero => intro _; simp [sumF]
    | succ n ih =>
      intro hn
      have h1 := ih (by omega)
      have hx : xs[n]? = some xs[n] := List.getElem?_eq_getElem (by omega)
      have h2 := h n _ hx
      rw [List.take_add_one, hx, app]
      simp only [sumF, Option.toList, Rows.uptoBulkAll]
      omega
  have := key xs.length (Nat.le_refl _)
  rwa [List.take_length] at this
theorem cell_spot {a : Addr} {v : Value} (h : W.cell? a = some v) : a = ⟨a.block, a.off, none⟩ := by
  have := spot_none h
  cases a; simp_all
theorem add_off (b off n : Nat) : (⟨b, off, none⟩ : Addr).add n = ⟨b, off + n, none⟩ := by
  unfold Addr.add
  split
  · subst_vars; rfl
  · rfl
theorem fine_of (hf : fineB P l = true) {t : TypeId} (ht : t ∈ l) : t < P.types.size ∧ fineD l (P.underlying t) = true := by
  have := List.all_eq_true.1 hf t ht
  simpa only [Bool.and_eq_true, decide_eq_true_eq] using this
theorem choose_rows {m : Nat} {R : Nat → List V → Nat → Prop} (h : ∀ i, i < m → ∃ vs k, R i vs k) : ∃ (f : Nat → List V) (c : Nat → Nat), ∀ i, i < m → R i (f i) (c i) := by
  refine ⟨fun i => if h' : i < m then (h i h').choose else [], fun i => if h' : i < m then (h i h').choose_spec.choose else 0, fun i hi => ?_⟩
  simp only [hi, dif_pos]
  exact (h i hi).choose_spec.choose_spec
theorem trod_sh (K : Kids P (· < P.types.size)) (hf : fineB P l = true) (hz : ∀ t e, t < P.types.size → P.underlying t = some (.slice e) → 0 < P.cellsOf e) :
    ∀ (n : Nat) (t : TypeId) (cs : List Value) (x : DataW H × List MemPlace), t ∈ l → DataW.trod enc P W 0 (fun _ => true) true n t cs = some x →
      ∃ vs k, ShV P t vs k ∧ k ≤ Rows.uptoBulk x.1 ∧ CR W cs vs := by
  intro n
  induction n with
  | zero => intro t cs x ht h; simp [DataW.trod] at h
  | succ n ih =>
    intro t cs x ht h
    obtain ⟨hts, hfd⟩ := fine_of hf ht
    generalize hu : P.underlying t = u at hfd
    match u, hfd with
    | some (.int k), _ =>
      obtain ⟨m, rfl, rfl, hw⟩ := DataW.trod_int hu h
      exact ⟨_, _, .int hu hw, Nat.le_refl _, .one rfl (PRel.int _ _)⟩
    | some .bool, _ =>
      obtain ⟨b, rfl, rfl⟩ := DataW.trod_bool hu h
      exact ⟨_, _, .bool hu, Nat.le_refl _, .one rfl (PRel.bool _)⟩
    | some .string, _ =>
      obtain ⟨s, rfl, rfl, hs⟩ := DataW.trod_string hu h
      refine ⟨_, _, .str (s := s.data.toList) hu ?_, Nat.le_refl _, .one rfl (PRel.str _)⟩
      have : s.data.toList.length = s.size := Array.length_toList
      rw [this]; unfold maxLen at hs; omega
    | some (.slice e), hfd =>
      have hel : e ∈ l := by simpa [fineD] using hfd
      rcases DataW.trod_slice hu h with ⟨rfl, rfl⟩ | ⟨a, len, cap, elems, rest, n', hn, rfl, rfl, hb, hlc, hcm, hel', hget, -, -⟩
      · exact ⟨_, _, .sl [] (fun _ => 0) hu (by simp) (fun i r h => by simp at h), by simp [sumF, Rows.uptoBulk], .one rfl (PRel.slEmpty _ _ _ _)⟩
      · obtain rfl : n = n' := by omega
        have hpos := hz t e hts hu
        have hall : ∀ i, i < len → ∃ vs k, (ShV P e vs k ∧ k ≤ Rows.uptoBulk ((elems.map (·.1)).getD i .nil) ∧ ∃ cs', W.cells? 0 (a.add (i * P.cellsOf e)) (P.cellsOf e) = some cs' ∧ CR W cs' vs) := by
          intro i hi
          have hg := hget i hi
          have hie : i < elems.length := by omega
          rw [List.getElem?_eq_getElem hie, Option.bind_eq_some_iff] at hg
          obtain ⟨cs', hc1, hc2⟩ := hg
          obtain ⟨vs, k, h1, h2, h3⟩ := ih e cs' _ hel hc2
          refine ⟨vs, k, h1, ?_, cs', hc1, h3⟩
          simp only [List.getD, List.getElem?_map, List.getElem?_eq_getElem hie, Option.map_some, Option.getD_some]; exact h2
        obtain ⟨f, c, hfc⟩ := choose_rows hall
        have hrl : ((List.range len).map f).length = len := by simp
        have hrg : ∀ (i : Nat) r, ((List.range len).map f)[i]? = some r → i < len ∧ r = f i := by
          intro i r hi
          have hlt : i < len := by have := (List.getElem?_eq_some_iff.1 hi).1; simpa using this
          rw [List.getElem?_map, List.getElem?_range hlt] at hi
          exact ⟨hlt, (Option.some.inj hi).symm⟩
        have hspot : 0 < len → a = ⟨a.block, a.off, none⟩ := by
          intro h0
          obtain ⟨-, -, cs', hc1, -⟩ := hfc 0 h0
          obtain ⟨-, hcl, hcell⟩ := World.cells?_some hc1
          have h1 := hcell 0 hpos
          rw [List.getElem?_eq_getElem (by omega)] at h1
          have h2 : (a.add (0 * P.cellsOf e)).add 0 = a := by rw [Nat.zero_mul]; unfold Addr.add; simp
          rw [h2] at h1
          exact cell_spot h1
        refine ⟨_, _, .sl ((List.range len).map f) c hu (by rw [hrl]; unfold maxLen at hcm; omega) (fun i r hi => by obtain ⟨hlt, rfl⟩ := hrg i r hi; exact (hfc i hlt).1), ?_, ?_⟩
        · rw [hrl]
          simp only [Rows.uptoBulk]
          have hm : (elems.map (·.1)).length = len := by simp [hel']
          have := bulk_sum (elems.map (·.1)) c (fun i y hy => by
            have hlt : i < len := by have := (List.getElem?_eq_some_iff.1 hy).1; omega
            have := (hfc i hlt).2.1
            simp only [List.getD, hy, Option.getD_some] at this
            exact this)
          rw [hm] at this
          omega
        · refine .one rfl ?_
          have hrowlen : ∀ i, i < len → (f i).length = P.cellsOf e := by
            intro i hi
            obtain ⟨-, -, cs', hc1, hc2⟩ := hfc i hi
            rw [hc2.1]; exact (World.cells?_some hc1).2.1
          have hcell : ∀ i, i < len → ∀ (j : Nat) v, (f i)[j]? = some v → ∃ y, W.cell? ⟨a.block, a.off + (i * P.cellsOf e + j), none⟩ = some y ∧ y.oneCell' = true ∧ PRel (WM W) v y := by
            intro i hi j v hj
            have hjl : j < P.cellsOf e := by rw [← hrowlen i hi]; exact (List.getElem?_eq_some_iff.1 hj).1
            obtain ⟨-, -, cs', hc1, hc2⟩ := hfc i hi
            obtain ⟨-, hcl, hcell⟩ := World.cells?_some hc1
            have h1 := hcell j hjl
            rw [hspot (by omega), add_off, add_off, List.getElem?_eq_getElem (by omega)] at h1
            have h2 := hc2.2 j v hj
            have hg : cs'.getD j undef = cs'[j] := by simp [List.getD, List.getElem?_eq_getElem (show j < cs'.length by omega)]
            rw [hg] at h2
            exact ⟨_, by rw [← Nat.add_assoc]; exact h1, h2⟩
          have hX : ∀ (i : Nat) r (j : Nat) v, ((List.range len).map f)[i]? = some r → r[j]? = some v → W.cell? ⟨a.block, a.off + (i * P.cellsOf e + j), none⟩ = some ((W.cell? ⟨a.block, a.off + (i * P.cellsOf e + j), none⟩).getD undef) ∧ ((W.cell? ⟨a.block, a.off + (i * P.cellsOf e + j), none⟩).getD undef).oneCell' = true ∧ PRel (WM W) v ((W.cell? ⟨a.block, a.off + (i * P.cellsOf e + j), none⟩).getD undef) := by
            intro i r j v hi hj
            obtain ⟨hlt, rfl⟩ := hrg i r hi
            obtain ⟨y, h1, h2, h3⟩ := hcell i hlt j v hj
            rw [h1]; exact ⟨rfl, h2, h3⟩
          have hfin := PRel.sl (M := WM W) (P.cellsOf e) ((List.range len).map f) (some a) cap a.block a.off (fun i j => (W.cell? ⟨a.block, a.off + (i * P.cellsOf e + j), none⟩).getD undef) (by rw [hrl]; exact hlc)
            (fun hne => by rw [← hspot (by rw [← hrl]; exact List.length_pos_iff.2 hne)])
            (fun i r hi => by obtain ⟨hlt, rfl⟩ := hrg i r hi; exact hrowlen i hlt)
            (fun i r j v hi hj => cellAt_cell (hX i r j v hi hj).1) (fun i r j v hi hj => (hX i r j v hi hj).2.1) (fun i r j v hi hj => (hX i r j v hi hj).2.2)
          rw [hrl] at hfin
          exact hfin
    | some (.struct fs), hfd =>
      obtain ⟨xs, n', hn, rfl, hcl, hxl, hget⟩ := DataW.trod_struct hu h
      obtain rfl : n = n' := by omega
      obtain ⟨-, hsum, hoff⟩ := K.struct hts hu
      have hfl : ∀ f ∈ fs.toList, f.type ∈ l := by
        intro f hf'
        have := List.all_eq_true.1 (show fs.toList.all (fun f => l.contains f.type) = true from hfd) f hf'
        simpa using this
      have hall : ∀ i, i < fs.size → ∃ vs k, (∃ f, fs.toList[i]? = some f ∧ ShV P f.type vs k ∧ k ≤ Rows.uptoBulk ((xs.map (·.1)).getD i .nil) ∧ CR W ((cs.drop f.offset).take (P.cellsOf f.type)) vs) := by
        intro i hi
        have hfi : fs.toList[i]? = some fs[i] := by simp [hi]
        have hg := hget i fs[i] (by simp [hi])
        have hix : i < xs.length := by omega
        rw [List.getElem?_eq_getElem hix] at hg
        obtain ⟨vs, k, h1, h2, h3⟩ := ih _ _ _ (hfl _ (List.mem_of_getElem? hfi)) hg
        refine ⟨vs, k, fs[i], hfi, h1, ?_, h3⟩
        simp only [List.getD, List.getElem?_map, List.getElem?_eq_getElem hix, Option.map_some, Option.getD_some]; exact h2
      obtain ⟨g, c, hgc⟩ := choose_rows hall
      refine ⟨_, _, .struct g c hu (fun i f hi => ?_), ?_, ?_⟩
      · have hlt : i < fs.size := (Array.getElem?_eq_some_iff.1 hi).1
        obtain ⟨f', hf', h1, -⟩ := hgc i hlt
        obtain rfl : f' = f := by
          have : fs.toList[i]? = fs[i]? := by simp
          rw [this, hi] at hf'; exact (Option.some.inj hf').symm
        exact h1
      · simp only [Rows.uptoBulk]
        have := bulk_sum (xs.map (·.1)) c (fun i y hy => by
          have hlt : i < fs.size := by have := (List.getElem?_eq_some_iff.1 hy).1; simp at this; omega
          obtain ⟨f', hf', -, h2, -⟩ := hgc i hlt
          simp only [List.getD, hy, Option.getD_some] at h2
          exact h2)
        rw [List.length_map, hxl] at this
        omega
      · have key : ∀ m, m ≤ fs.size → CR W (cs.take ((fs.toList.take m).map fun f => P.cellsOf f.type).sum) (catF g m) := by
          intro m
          induction m with
          | zero => intro _; simp only [List.take_zero, List.map_nil, List.sum_nil, catF]; exact .nil
          | succ m ihm =>
            intro hm
            obtain ⟨f', hf', h1, -, h3⟩ := hgc m (by omega)
            have h4 := hoff m f' hf'
            have h5 := CR.app (ihm (by omega)) h3
            rw [h4] at h5
            rw [List.take_add_one, hf', List.map_append, List.sum_append]
            simp only [Option.toList, List.map_cons, List.map_nil, List.sum_cons, List.sum_nil, Nat.add_zero]
            rw [List.take_add]
            exact h5
        have := key fs.size (Nat.le_refl _)
        rw [show fs.toList.take fs.size = fs.toList from List.take_of_length_le (by simp), ← hsum, ← hcl, List.take_length] at this
        exact this
end
end Go.Proofs.Ytoccgkgdhobmfaa.Am.Ru
set_option maxRecDepth 100000
set_option linter.unusedVariables false
set_option linter.unusedSimpArgs false
namespace Go.Proofs.Ytoccgkgdhobmfaa.Am.Ru
open Go Go.ChangeShapes Go.WideShapes Go.ChangeAt Go.RowKit
section
variable {P : Program}
def InvV (P : Program) (vs : List V) (k : Nat) : Option TypeDesc → Prop
  | some (.int q) => ∃ n, vs = [.int q n] ∧ (Lit.int q n).wf = true
  | some .bool => ∃ b, vs = [.bool b]
  | some .string => ∃ s : List UInt8, vs = [.str s] ∧ s.length ≤ 9223372036854775807 ∧ k = s.length + 1
  | some (.slice e) => ∃ (rows : List (List V)) (c : Nat → Nat), vs = [.sl (P.cellsOf e) rows] ∧ rows.length ≤ 9223372036854775807 ∧ (∀ (i : Nat) r, rows[i]? = some r → ShV P e r (c i)) ∧ k = sumF c rows.length + 1
  | some (.struct fs) => ∃ (ls : Nat → List V) (c : Nat → Nat), vs = catF ls fs.size ∧ (∀ (i : Nat) f, fs[i]? = some f → ShV P f.type (ls i) (c i)) ∧ k = sumF c fs.size + 1
  | _ => False
theorem ShV.inv {t : TypeId} {vs : List V} {k : Nat} (h : ShV P t vs k) : InvV P vs k (P.underlying t) := by
  cases h with
  | int ht hw => rw [ht]; exact ⟨_, rfl, hw⟩
  | bool ht => rw [ht]; exact ⟨_, rfl⟩
  | str ht hs => rw [ht]; exact ⟨_, rfl, hs, rfl⟩
  | sl rows c ht hl hr => rw [ht]; exact ⟨rows, c, rfl, hl, hr, rfl⟩
  | struct ls c ht hr => rw [ht]; exact ⟨ls, c, rfl, hr, rfl⟩
theorem sumF_le (c : Nat → Nat) : ∀ n i, i < n → c i ≤ sumF c n
  | n + 1, i, h => by
    by_cases h' : i = n
    · subst h'; simp only [sumF]; omega
    · have := sumF_le c n i (by omega); simp only [sumF]; omega
theorem rows_of {X : Type} (row : X → List V) (Q : X → Nat → Prop) : ∀ (rows : List (List V)) (c : Nat → Nat), (∀ (i : Nat) r, rows[i]? = some r → ∃ v : X, r = row v ∧ Q v (c i)) →
    ∃ l : List X, rows = l.map row ∧ l.length = rows.length ∧ ∀ (i : Nat) v, l[i]? = some v → Q v (c i)
  | [], c, h => ⟨[], rfl, rfl, fun i v hv => by simp at hv⟩
  | r :: rows, c, h => by
    obtain ⟨v, e1, q⟩ := h 0 r rfl
    obtain ⟨l, e2, hl, ql⟩ := rows_of row Q rows (fun i => c (i + 1)) (fun i r' hr => h (i + 1) r' hr)
    refine ⟨v :: l, by rw [e1, e2]; rfl, by simp [hl], fun i w hw => ?_⟩
    match i, hw with
    | 0, hw => obtain rfl := Option.some.inj hw; exact q
    | i + 1, hw => exact ql i w hw
theorem mem_of_get {X : Type} {l : List X} {Q : X → Prop} (h : ∀ (i : Nat) v, l[i]? = some v → Q v) : ∀ x ∈ l, Q x := by
  intro x hx
  obtain ⟨i, hi⟩ := List.getElem?_of_mem hx
  exact h i x hi
theorem wf64 {n : Int} (hw : (Lit.int .i64 n).wf = true) : -9223372036854775808 ≤ n ∧ n < 9223372036854775808 := by
  simp only [Lit.wf, Bool.and_eq_true, decide_eq_true_eq] at hw
  have h1 : (-9223372036854775808 : Int) ≤ n := hw.1
  have h2 : n ≤ (9223372036854775807 : Int) := hw.2
  exact ⟨h1, by omega⟩
end
theorem sh_int {vs : List V} {k : Nat} (h : ShV Try.prog 3 vs k) : ∃ n : Int, vs = [.int .i64 n] ∧ -9223372036854775808 ≤ n ∧ n < 9223372036854775808 := by
  have := h.inv; rw [Try.underlying3] at this
  obtain ⟨n, rfl, hw⟩ := this
  exact ⟨n, rfl, wf64 hw⟩
theorem sh_str {vs : List V} {k : Nat} (h : ShV Try.prog 9 vs k) : ∃ s : List UInt8, vs = [.str s] ∧ s.length < 9223372036854775808 ∧ s.length < k := by
  have := h.inv; rw [Try.underlying9] at this
  obtain ⟨s, rfl, hl, hk⟩ := this
  exact ⟨s, rfl, by omega, by omega⟩
theorem tc3 : Try.prog.cellsOf 3 = 1 := by kernel_rfl
theorem tc9 : Try.prog.cellsOf 9 = 1 := by kernel_rfl
theorem tc29 : Try.prog.cellsOf 29 = 3 := by kernel_rfl
theorem tc33 : Try.prog.cellsOf 33 = 5 := by kernel_rfl
theorem tc43 : Try.prog.cellsOf 43 = 11 := by kernel_rfl
theorem tc37 : Try.prog.cellsOf 37 = 15 := by kernel_rfl
theorem tc39 : Try.prog.cellsOf 39 = 31 := by kernel_rfl
theorem tc93 : Try.prog.cellsOf 93 = 6 := by kernel_rfl
theorem ShV.pos {P : Program} {t : TypeId} {vs : List V} {k : Nat} (h : ShV P t vs k) : 1 ≤ k := by cases h <;> omega
theorem sumF_ge (c : Nat → Nat) : ∀ n, (∀ i, i < n → 1 ≤ c i) → n ≤ sumF c n
  | 0, _ => Nat.zero_le _
  | n + 1, h => by have := sumF_ge c n (fun i hi => h i (by omega)); have := h n (by omega); simp only [sumF]; omega
theorem rows_k {P : Program} {e : TypeId} {rows : List (List V)} {c : Nat → Nat} (hr : ∀ (i : Nat) r, rows[i]? = some r → ShV P e r (c i)) : rows.length ≤ sumF c rows.length :=
  sumF_ge c _ (fun i hi => (hr i _ (List.getElem?_eq_getElem hi)).pos)
theorem sh_ints {vs : List V} {k : Nat} (h : ShV Try.prog 22 vs k) : ∃ l : List Int, vs = [.sl 1 (rowI l)] ∧ okI l ∧ l.length < k := by
  have := h.inv; rw [Try.underlying22] at this
  obtain ⟨rows, c, rfl, hl, hr, hk⟩ := this
  obtain ⟨l, e, hll, hq⟩ := rows_of (fun n : Int => [V.int .i64 n]) (fun n _ => -9223372036854775808 ≤ n ∧ n < 9223372036854775808) rows c (fun i r hi => by obtain ⟨n, e, h⟩ := sh_int (hr i r hi); exact ⟨n, e, h⟩)
  have := rows_k hr
  exact ⟨l, by rw [tc3, e]; rfl, ⟨by omega, mem_of_get hq⟩, by omega⟩
theorem sh_strs {vs : List V} {k : Nat} (h : ShV Try.prog 35 vs k) : ∃ l : List (List UInt8), vs = [.sl 1 (strsV l)] ∧ l.length < 9223372036854775808 ∧ l.length < k := by
  have := h.inv; rw [Try.underlying35] at this
  obtain ⟨rows, c, rfl, hl, hr, hk⟩ := this
  obtain ⟨l, e, hll, hq⟩ := rows_of (fun s : List UInt8 => [V.str s]) (fun _ _ => True) rows c (fun i r hi => by obtain ⟨n, e, _⟩ := sh_str (hr i r hi); exact ⟨n, e, trivial⟩)
  have := rows_k hr
  exact ⟨l, by rw [tc9, e]; rfl, by omega, by omega⟩
theorem sh_idn {vs : List V} {k : Nat} (h : ShV Try.prog 29 vs k) : ∃ i : Idn, vs = i.row := by
  have := h.inv; rw [Try.underlying29] at this
  obtain ⟨ls, c, rfl, hr, hk⟩ := this
  obtain ⟨a, e0, -⟩ := sh_int (hr 0 _ rfl)
  obtain ⟨b, e1, -⟩ := sh_int (hr 1 _ rfl)
  obtain ⟨d, e2, -⟩ := sh_int (hr 2 _ rfl)
  refine ⟨⟨a, b, d⟩, ?_⟩
  show ((([] ++ ls 0) ++ ls 1) ++ ls 2) = _
  rw [e0, e1, e2]; rfl
theorem sh_idns {vs : List V} {k : Nat} (h : ShV Try.prog 91 vs k) : ∃ l : List Idn, vs = [.sl 3 (Idn.rows l)] ∧ l.length < 9223372036854775808 := by
  have := h.inv; rw [Try.underlying91] at this
  obtain ⟨rows, c, rfl, hl, hr, hk⟩ := this
  obtain ⟨l, e, hll, hq⟩ := rows_of Idn.row (fun _ _ => True) rows c (fun i r hi => by obtain ⟨n, e⟩ := sh_idn (hr i r hi); exact ⟨n, e, trivial⟩)
  exact ⟨l, by rw [tc29, e, Idn.rows_map], by omega⟩
theorem sh_typ : ∀ (k : Nat) (vs : List V), ShV Try.prog 33 vs k → ∃ v : Typ, vs = v.row ∧ okT v := by
  intro k
  induction k using Nat.strongRecOn with
  | ind k ih =>
    intro vs h
    have := h.inv; rw [Try.underlying33] at this
    obtain ⟨ls, c, rfl, hr, hk⟩ := this
    have hk : k = 0 + c 0 + c 1 + c 2 + 1 := hk
    obtain ⟨a, e0, ha⟩ := sh_int (hr 0 _ rfl)
    obtain ⟨b, e1⟩ := sh_idn (hr 1 _ rfl)
    have h2 := (show ShV Try.prog 31 (ls 2) (c 2) from hr 2 _ rfl).inv
    rw [Try.underlying31] at h2
    obtain ⟨rows, c', e2, hl, hr', hk'⟩ := h2
    obtain ⟨l, e, hll, hq⟩ := rows_of Typ.row (fun v _ => okT v) rows c' (fun i r hi => ih (c' i) (by have := sumF_le c' rows.length i (List.getElem?_eq_some_iff.1 hi).1; omega) r (hr' i r hi))
    refine ⟨.mk a b l, ?_, (okT_kids _).2 ⟨by show l.length < _; omega, mem_of_get hq⟩⟩
    show ((([] ++ ls 0) ++ ls 1) ++ ls 2) = _
    rw [e0, e1, e2, tc33, e, ← Typ.rows_map, Typ.row_eq]; rfl
theorem sh_slt {vs : List V} {k : Nat} (h : ShV Try.prog 43 vs k) : ∃ s : Slt, vs = s.row ∧ okT s.ty := by
  have := h.inv; rw [Try.underlying43] at this
  obtain ⟨ls, c, rfl, hr, hk⟩ := this
  obtain ⟨a, e0⟩ := sh_idn (hr 0 _ rfl)
  obtain ⟨b, e1, -⟩ := sh_str (hr 1 _ rfl)
  obtain ⟨t, e2, ht⟩ := sh_typ _ _ (hr 2 _ rfl)
  obtain ⟨m, e3, -⟩ := sh_int (hr 3 _ rfl)
  obtain ⟨q, e4, -⟩ := sh_int (hr 4 _ rfl)
  refine ⟨⟨a, b, t, m, q⟩, ?_, ht⟩
  show ((((([] ++ ls 0) ++ ls 1) ++ ls 2) ++ ls 3) ++ ls 4) = _
  rw [e0, e1, e2, e3, e4, Slt.row_eq, Typ.row_eq]; rfl
theorem sh_exr : ∀ (k : Nat) (vs : List V), ShV Try.prog 37 vs k → ∃ v : Exr, vs = v.row ∧ True := by
  intro k
  induction k using Nat.strongRecOn with
  | ind k ih =>
    intro vs h
    have := h.inv; rw [Try.underlying37] at this
    obtain ⟨ls, c, rfl, hr, hk⟩ := this
    have hk : k = 0 + c 0 + c 1 + c 2 + c 3 + c 4 + c 5 + c 6 + 1 := hk
    obtain ⟨a, e0⟩ := sh_idn (hr 0 _ rfl)
    obtain ⟨b, e1, -⟩ := sh_int (hr 1 _ rfl)
    obtain ⟨n, e2, -⟩ := sh_int (hr 2 _ rfl)
    obtain ⟨r, e3⟩ := sh_idn (hr 3 _ rfl)
    obtain ⟨t, e4, -⟩ := sh_typ _ _ (hr 4 _ rfl)
    have h2 := (show ShV Try.prog 34 (ls 5) (c 5) from hr 5 _ rfl).inv
    rw [Try.underlying34] at h2
    obtain ⟨rows, c', e5, hl, hr', hk'⟩ := h2
    obtain ⟨l, e, hll, hq⟩ := rows_of Exr.row (fun v _ => True) rows c' (fun i r hi => ih (c' i) (by have := sumF_le c' rows.length i (List.getElem?_eq_some_iff.1 hi).1; omega) r (hr' i r hi))
    obtain ⟨w, e6, -⟩ := sh_strs (hr 6 _ rfl)
    refine ⟨.mk a b n r t l w, ?_, trivial⟩
    show ((((((([] ++ ls 0) ++ ls 1) ++ ls 2) ++ ls 3) ++ ls 4) ++ ls 5) ++ ls 6) = _
    rw [e0, e1, e2, e3, e4, e5, e6, tc37, e, ← Exr.rows_map, Exr.row_eq, Typ.row_eq]; rfl
theorem sh_dfn {vs : List V} {k : Nat} (h : ShV Try.prog 39 vs k) : ∃ d : Dfn, vs = d.row ∧ okD d := by
  have := h.inv; rw [Try.underlying39] at this
  obtain ⟨ls, c, rfl, hr, hk⟩ := this
  obtain ⟨a, e0⟩ := sh_idn (hr 0 _ rfl)
  obtain ⟨b, e1, -⟩ := sh_int (hr 1 _ rfl)
  obtain ⟨m, e2⟩ := sh_idn (hr 2 _ rfl)
  obtain ⟨n, e3, -⟩ := sh_str (hr 3 _ rfl)
  have h4 := (show ShV Try.prog 30 (ls 4) (c 4) from hr 4 _ rfl).inv
  rw [Try.underlying30] at h4
  obtain ⟨rows, c', e4, hl, hr', hk'⟩ := h4
  obtain ⟨l, e, hll, hq⟩ := rows_of Slt.row (fun s _ => okT s.ty) rows c' (fun i r hi => sh_slt (hr' i r hi))
  obtain ⟨t, e5, -⟩ := sh_typ _ _ (hr 5 _ rfl)
  obtain ⟨x, e6, -⟩ := sh_exr _ _ (hr 6 _ rfl)
  obtain ⟨q, e7, -⟩ := sh_int (hr 7 _ rfl)
  obtain ⟨w, e8, -⟩ := sh_strs (hr 8 _ rfl)
  refine ⟨⟨a, b, m, n, l, t, x, q, w⟩, ?_, by show l.length < _; omega, mem_of_get hq⟩
  show ((((((((([] ++ ls 0) ++ ls 1) ++ ls 2) ++ ls 3) ++ ls 4) ++ ls 5) ++ ls 6) ++ ls 7) ++ ls 8) = _
  rw [e0, e1, e2, e3, e4, e5, e6, e7, e8, tc43, e, ← Slt.rows_map, Dfn.row_eq, Exr.row_eq, Typ.row_eq]; rfl
theorem sh_mdl {vs : List V} {k : Nat} (h : ShV Try.prog 93 vs k) : ∃ d : Mdl, vs = d.row := by
  have := h.inv; rw [Try.underlying93] at this
  obtain ⟨ls, c, rfl, hr, hk⟩ := this
  obtain ⟨a, e0⟩ := sh_idn (hr 0 _ rfl)
  obtain ⟨n, e1, -⟩ := sh_str (hr 1 _ rfl)
  obtain ⟨u, e2, -⟩ := sh_idns (hr 2 _ rfl)
  obtain ⟨d, e3, -⟩ := sh_idns (hr 3 _ rfl)
  refine ⟨⟨a, n, u, d⟩, ?_⟩
  show (((([] ++ ls 0) ++ ls 1) ++ ls 2) ++ ls 3) = _
  rw [e0, e1, e2, e3, Mdl.row_eq]; rfl
theorem sh_prg {vs : List V} {k : Nat} (h : ShV Try.prog 26 vs k) : ∃ p : Prg, vs = p.row ∧ okDs p.defs := by
  have := h.inv; rw [Try.underlying26] at this
  obtain ⟨ls, c, rfl, hr, hk⟩ := this
  have h0 := (show ShV Try.prog 23 (ls 0) (c 0) from hr 0 _ rfl).inv
  rw [Try.underlying23] at h0
  obtain ⟨rows, c', e0, hl, hr', hk'⟩ := h0
  obtain ⟨l, e, hll, hq⟩ := rows_of Mdl.row (fun _ _ => True) rows c' (fun i r hi => by obtain ⟨m, e⟩ := sh_mdl (hr' i r hi); exact ⟨m, e, trivial⟩)
  have h1 := (show ShV Try.prog 24 (ls 1) (c 1) from hr 1 _ rfl).inv
  rw [Try.underlying24] at h1
  obtain ⟨rows1, c1', e1, hl1, hr1', hk1'⟩ := h1
  obtain ⟨l1, e', hll1, hq1⟩ := rows_of Dfn.row (fun d _ => okD d) rows1 c1' (fun i r hi => sh_dfn (hr1' i r hi))
  refine ⟨⟨l, l1⟩, ?_, by show l1.length < _; omega, mem_of_get hq1⟩
  show (([] ++ ls 0) ++ ls 1) = _
  rw [e0, e1, tc93, tc39, e, e', ← Mdl.rows_map, ← Dfn.rows_map, Prg.row_eq]; rfl
end Go.Proofs.Ytoccgkgdhobmfaa.Am.Ru
set_option maxRecDepth 100000
set_option linter.unusedVariables false
set_option linter.unusedSimpArgs false
namespace Go.Proofs.Ytoccgkgdhobmfaa.Am.Ru
open Go Go.ChangeShapes Go.WideShapes Go.ChangeAt Go.RowKit
def EN : Nat → Option (CallFn → List V → Hp → Nat → Option Out) := fun _ => none
def GN : Nat → Option (List V) := fun _ => none
theorem xokN : XOK EN := ⟨fun f x h => (nomatch h), fun _ _ => rfl⟩
theorem gokN (W : World) : GOK (WM W) GN := fun g cs h => (nomatch h)
theorem mixed : Try.prog.follows .mixedOrders = true := by kernel_rfl
theorem callOk (G : Nat → Option (List V)) : CallOk Try.prog G (cfW G T EN) := cfW_sound (fun f x h => (nomatch h)) mixed T_ok (fun f x h => (nomatch h))
theorem own : ownKnob Try.prog.godebug = none := by kernel_rfl
theorem kids : Kids Try.prog (· < Try.prog.types.size) := kids_rows (by kernel_rfl) (by kernel_rfl)
theorem full : ∀ t e, t < Try.prog.types.size → Try.prog.underlying t = some (.slice e) → 0 < Try.prog.cellsOf e := slices_full_of Try.prog (by kernel_rfl)
def fineL : List TypeId := [3, 5, 9, 22, 23, 24, 26, 29, 30, 31, 33, 34, 35, 37, 39, 43, 45, 48, 83, 91, 93]
theorem fine : fineB Try.prog fineL = true := by kernel_rfl
section
variable {H : Type} {enc : TypeId × Value → H} {W : World} {r : Reach} {b0 : Nat}
theorem okWide_struct {P : Program} {t : TypeId} {fs : Array Field} {v : Value} (ht : P.underlying t = some (.struct fs)) (h : Value.okWide P W r b0 t v) : ∃ cs, v = .agg cs := by
  simp only [Value.okWide, ht] at h
  obtain ⟨cs, h1, _⟩ := h
  exact ⟨cs, h1⟩
theorem arg_agg {t : TypeId} {fs : Array Field} {v : Value} {d : DataW H} {p : List MemPlace} (ht : Try.prog.underlying t = some (.struct fs)) (hl : t ∈ fineL) (hval : Value.okWide Try.prog W r b0 t v)
    (hd : DataW.Trod enc Try.prog W 0 (fun _ => true) true t v d p) : ∃ vs k, ShV Try.prog t vs k ∧ k ≤ Rows.uptoBulk d ∧ PRel (WM W) (.agg vs) v := by
  obtain ⟨cs, rfl⟩ := okWide_struct ht hval
  obtain ⟨n, hn⟩ := hd
  obtain ⟨vs, k, h1, h2, h3⟩ := trod_sh kids fine full n t _ _ hl hn
  have hc : (Value.agg cs).cells.toList = cs.toList := rfl
  rw [hc] at h3
  refine ⟨vs, k, h1, h2, PRel.agg _ _ (by rw [h3.1]; simp) (fun j x hj => ?_) (fun j x hj => ?_)⟩
  · have := (h3.2 j x hj).1
    simpa [List.getD, Array.getD_eq_getD_getElem?] using this
  · have := (h3.2 j x hj).2
    simpa [List.getD, Array.getD_eq_getD_getElem?] using this
theorem arg_sl {t e : TypeId} {v : Value} {d : DataW H} {p : List MemPlace} (ht : Try.prog.underlying t = some (.slice e)) (hl : t ∈ fineL) (hval : Value.okWide Try.prog W r b0 t v)
    (hd : DataW.Trod enc Try.prog W 0 (fun _ => true) true t v d p) : ∃ vs k, ShV Try.prog t vs k ∧ k ≤ Rows.uptoBulk d ∧ ∀ y, vs = [y] → PRel (WM W) y v := by
  obtain ⟨a, len, cap, rfl⟩ := okWide_slice ht hval
  obtain ⟨n, hn⟩ := hd
  obtain ⟨vs, k, h1, h2, h3⟩ := trod_sh kids fine full n t _ _ hl hn
  refine ⟨vs, k, h1, h2, fun y hy => ?_⟩
  subst hy
  exact (h3.2 0 y rfl).2
theorem ga_ints {v : Value} {d : DataW H} {p : List MemPlace} (hval : Value.okWide Try.prog W r b0 22 v) (hd : DataW.Trod enc Try.prog W 0 (fun _ => true) true 22 v d p) :
    ∃ l : List Int, PRel (WM W) (.sl 1 (rowI l)) v ∧ okI l ∧ l.length < Rows.uptoBulk d := by
  obtain ⟨vs, k, h1, h2, h3⟩ := arg_sl Try.underlying22 (by decide) hval hd
  obtain ⟨l, rfl, h4, h5⟩ := sh_ints h1
  exact ⟨l, h3 _ rfl, h4, by omega⟩
theorem ga_prg {v : Value} {d : DataW H} {p : List MemPlace} (hval : Value.okWide Try.prog W r b0 26 v) (hd : DataW.Trod enc Try.prog W 0 (fun _ => true) true 26 v d p) :
    ∃ q : Prg, PRel (WM W) (.agg q.row) v ∧ okDs q.defs := by
  obtain ⟨vs, k, h1, h2, h3⟩ := arg_agg Try.underlying26 (by decide) hval hd
  obtain ⟨q, rfl, h4⟩ := sh_prg h1
  exact ⟨q, h3, h4⟩
theorem ga_idn {v : Value} {d : DataW H} {p : List MemPlace} (hval : Value.okWide Try.prog W r b0 29 v) (hd : DataW.Trod enc Try.prog W 0 (fun _ => true) true 29 v d p) :
    ∃ i : Idn, PRel (WM W) (.agg i.row) v := by
  obtain ⟨vs, k, h1, h2, h3⟩ := arg_agg Try.underlying29 (by decide) hval hd
  obtain ⟨i, rfl⟩ := sh_idn h1
  exact ⟨i, h3⟩
theorem ga_typ {v : Value} {d : DataW H} {p : List MemPlace} (hval : Value.okWide Try.prog W r b0 33 v) (hd : DataW.Trod enc Try.prog W 0 (fun _ => true) true 33 v d p) :
    ∃ t : Typ, PRel (WM W) (.agg t.row) v ∧ okT t := by
  obtain ⟨vs, k, h1, h2, h3⟩ := arg_agg Try.underlying33 (by decide) hval hd
  obtain ⟨t, rfl, h4⟩ := sh_typ _ _ h1
  exact ⟨t, h3, h4⟩
theorem ga_int {v : Value} {d : DataW H} {p : List MemPlace} (hval : Value.okWide Try.prog W r b0 3 v) (hd : DataW.Trod enc Try.prog W 0 (fun _ => true) true 3 v d p) :
    ∃ n : Int, PRel (WM W) (.int .i64 n) v ∧ -9223372036854775808 ≤ n ∧ n < 9223372036854775808 := arg_i64 Try.underlying3 hval hd
end
/-- One more argument. -/
theorem relS {M : Mem} {a : V} {l : List V} {v : Value} {vs : List Value} (h : PRel M a v) (k : ∀ (j : Nat) x, l[j]? = some x → PRel M x (vs.toArray.getD j undef)) : ∀ (j : Nat) x, (a :: l)[j]? = some x → PRel M x ((v :: vs).toArray.getD j undef) := by
  intro j x hj
  match j, hj with
  | 0, hj => obtain rfl := Option.some.inj hj; simpa using h
  | j + 1, hj =>
    have := k j x hj
    simpa [Array.getD_eq_getD_getElem?] using this
theorem relN {M : Mem} : ∀ (j : Nat) x, ([] : List V)[j]? = some x → PRel M x (([] : List Value).toArray.getD j undef) := fun j x h => by simp at h
end Go.Proofs.Ytoccgkgdhobmfaa.Am.Ru
set_option maxRecDepth 100000
set_option linter.unusedVariables false
namespace Go.Proofs.Ytoccgkgdhobmfaa.valueTypes
open Go Go.ChangeShapes Go.WideShapes Go.ChangeAt Go.RowKit Go.Proofs.Ytoccgkgdhobmfaa.Am.Ru
theorem hts : ∀ t ∈ Try.f7.params.toList, t < Try.prog.types.size := fun t ht =>
  of_decide_eq_true (List.all_eq_true.1 (show (Try.f7.params.toList.all fun t => decide (t < Try.prog.types.size)) = true by kernel_rfl) t ht)
theorem res : Try.f7.resultTypes = #[4] := by kernel_rfl
theorem contract (H : Type) (enc : TypeId × Value → H) (W : World) (base : Nat) (args : Array Value) (ds gs : List (DataW H)) (before : List MemPlace)
    (hval : ∀ (j : Nat) t v, Try.f7.params[j]? = some t → args[j]? = some v → Value.okWide Try.prog W .any base t v)
    (hW : DataW.Whole enc Try.prog Try.f7.params.toList Rows.valueTypesSpec.vars false W args.toList ds gs before) :
    Calls Try.prog 7 args W fun e W' => ∃ v, e = .returned v ∧ Rows.valueTypesSpec.post enc Try.prog Try.f7 false true false false W args v W' := by
  have hW' := hW
  obtain ⟨p, q, hA0, hV, hpq, hfz, hnd⟩ := hW
  obtain ⟨rfl, rfl⟩ := trodVars_none hV
  have hA : DataW.TrodAll enc Try.prog W 0 (fun _ => true) true Try.f7.params.toList args.toList ds p := hA0
  rw [Try.params7] at hA hval
  obtain ⟨v0, vs0, d0, ds0, p0, q0, e0, rfl, rfl, h0, r0⟩ := trodAll_cons hA
  obtain ⟨v1, vs1, d1, ds1, p1, q1, e1, rfl, rfl, h1, r1⟩ := trodAll_cons r0
  obtain ⟨v2, vs2, d2, ds2, p2, q2, e2, rfl, rfl, h2, r2⟩ := trodAll_cons r1
  obtain ⟨v3, vs3, d3, ds3, p3, q3, e3, rfl, rfl, h3, r3⟩ := trodAll_cons r2
  obtain ⟨v4, vs4, d4, ds4, p4, q4, e4, rfl, rfl, h4, r4⟩ := trodAll_cons r3
  obtain ⟨v5, vs5, d5, ds5, p5, q5, e5, rfl, rfl, h5, r5⟩ := trodAll_cons r4
  obtain ⟨rfl, rfl, rfl⟩ := trodAll_nil r5
  obtain rfl : args = #[v0, v1, v2, v3, v4, v5] := by cases args; simp_all
  obtain ⟨a0, g0, l0, m0⟩ := ga_ints (hval 0 22 v0 rfl rfl) h0
  obtain ⟨a1, g1, l1⟩ := ga_prg (hval 1 26 v1 rfl rfl) h1
  obtain ⟨a2, g2⟩ := ga_idn (hval 2 29 v2 rfl rfl) h2
  obtain ⟨a3, g3, l3⟩ := ga_typ (hval 3 33 v3 rfl rfl) h3
  obtain ⟨a4, g4, l4⟩ := ga_typ (hval 4 33 v4 rfl rfl) h4
  obtain ⟨a5, g5, l5, m5⟩ := ga_int (hval 5 3 v5 rfl rfl) h5
  refine (calls_true (callOk GN) (law_types xokN a0 l0 a1 l1 a2 a3 a4 l3 l4 a5 l5 m5) (gokN W) rfl (relS g0 (relS g1 (relS g2 (relS g3 (relS g4 (relS g5 relN))))))).mono ?_
  rintro e W' ⟨he, hk⟩
  exact ⟨_, he, post_true kids full hts hW' rfl rfl hk res Try.underlying4⟩
theorem laid_met (os : Os) : laidMet Try.prog Rows.valueTypesRow.laid ((World.holding Try.prog os ⟨#[], #[], []⟩).forCall (fun _ _ => 0) ⟨#[], #[(.slice none 0 0 : Value), (.agg #[.slice none 0 0, .slice none 0 0] : Value), (.agg #[.int .i64 0, .int .i64 0, .int .i64 0] : Value), (.agg #[.int .i64 0, .int .i64 0, .int .i64 0, .int .i64 0, .slice none 0 0] : Value), (.agg #[.int .i64 0, .int .i64 0, .int .i64 0, .int .i64 0, .slice none 0 0] : Value), (.int .i64 0 : Value)], []⟩).memory :=
  laidMet_of_run' 12 (by kernel_rfl) (by kernel_rfl)
theorem reads (os : Os) {H : Type} (enc : TypeId × Value → H) : ∃ places, DataW.whole enc Try.prog ((World.holding Try.prog os ⟨#[], #[], []⟩).forCall (fun _ _ => 0) ⟨#[], #[(.slice none 0 0 : Value), (.agg #[.slice none 0 0, .slice none 0 0] : Value), (.agg #[.int .i64 0, .int .i64 0, .int .i64 0] : Value), (.agg #[.int .i64 0, .int .i64 0, .int .i64 0, .int .i64 0, .slice none 0 0] : Value), (.agg #[.int .i64 0, .int .i64 0, .int .i64 0, .int .i64 0, .slice none 0 0] : Value), (.int .i64 0 : Value)], []⟩).memory Try.f7.params.toList Rows.valueTypesSpec.vars false (#[(.slice none 0 0 : Value), (.agg #[.slice none 0 0, .slice none 0 0] : Value), (.agg #[.int .i64 0, .int .i64 0, .int .i64 0] : Value), (.agg #[.int .i64 0, .int .i64 0, .int .i64 0, .int .i64 0, .slice none 0 0] : Value), (.agg #[.int .i64 0, .int .i64 0, .int .i64 0, .int .i64 0, .slice none 0 0] : Value), (.int .i64 0 : Value)] : Array Value).toList 12 = some ([.nil, .agg [.nil, .nil], .agg [.lit (.int .i64 0), .lit (.int .i64 0), .lit (.int .i64 0)], .agg [.lit (.int .i64 0), .agg [.lit (.int .i64 0), .lit (.int .i64 0), .lit (.int .i64 0)], .nil], .agg [.lit (.int .i64 0), .agg [.lit (.int .i64 0), .lit (.int .i64 0), .lit (.int .i64 0)], .nil], .lit (.int .i64 0)], [], places) :=
  ⟨[], by kernel_rfl⟩
/-- The first form's step. -/
theorem lifted (os : Os) (started : os.Started) (H : Type) (enc : TypeId × Value → H) (F : Stop.Interp) :
    ReturnsInHanded {} Try.checked os 7 .any ((OpenSpec.ofChange Rows.valueTypesSpec).preRow enc Try.prog Try.f7 Rows.valueTypesRow.domain false Rows.valueTypesRow.laid) (((OpenSpec.ofChange Rows.valueTypesSpec).at F).post enc Try.prog Try.f7 false true false false) := by
  obtain ⟨places, hx⟩ := reads os enc
  refine returnsInHanded_of_row (C := Try.checked) (s := (OpenSpec.ofChange Rows.valueTypesSpec)) own started (by kernel_rfl) Try.func7
    (witness_row_at (enc := enc) (C := Try.checked) false (World.holding Try.prog os ⟨#[], #[], []⟩) #[(.slice none 0 0 : Value), (.agg #[.slice none 0 0, .slice none 0 0] : Value), (.agg #[.int .i64 0, .int .i64 0, .int .i64 0] : Value), (.agg #[.int .i64 0, .int .i64 0, .int .i64 0, .int .i64 0, .slice none 0 0] : Value), (.agg #[.int .i64 0, .int .i64 0, .int .i64 0, .int .i64 0, .slice none 0 0] : Value), (.int .i64 0 : Value)] rfl (by kernel_rfl) (by kernel_rfl) (by kernel_rfl)
      (OpenSpec.preRow_of_cond 12 hx (by kernel_rfl) (fun k hk => by cases hk) (by kernel_rfl) (laid_met os))) ?_
  intro W base args ds gs before hval hW hD hC _ _ _ _
  exact contract H enc W base args ds gs before hval hW
theorem said : Rows.ValueTypesSaid :=
  OpenClaim.holds_of_cond 7 Try.f7 rfl rfl rfl rfl rfl rfl rfl ⟨rfl, rfl, rfl, rfl, rfl⟩ rfl rfl rfl rfl rfl (by kernel_rfl) Try.func7 (by kernel_rfl)
    (of_decide_eq_true (by kernel_rfl)) (by unfold Func.isWrapper; first | (rw [if_pos (by decide +kernel)]; kernel_rfl) | (rw [if_neg (by decide +kernel)]; exact ⟨rfl, rfl⟩))
    (fun os started H enc _ F => by rw [OpenClaim.pre_eq_preRow]; exact lifted os started H enc F)
end Go.Proofs.Ytoccgkgdhobmfaa.valueTypes
