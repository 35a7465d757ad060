/- The abstract machine and the contracts of the program, part Wm. -/
import Derived.Test.YtoccgkgdhobmfaaDoorWl
set_option maxRecDepth 100000
set_option linter.unusedSimpArgs false
set_option linter.unusedVariables false
namespace Go.Proofs.YtoccgkgdhobmfaaDoor.Am.Ru
open Go
variable {G : Nat → Option (List V)} {E : Nat → Option (CallFn → List V → Hp → Nat → Option Out)}

def foldT (l : List (List UInt8)) : Strm := l.foldl addT s0
theorem strs_take (l : List (List UInt8)) (n : Nat) : (strsV l).take n = strsV (l.take n) := by simp only [strsV, List.map_take]
theorem foldT_wf (l : List (List UInt8)) : WF (foldT l) := wf_fold l wf0
theorem foldT_step (l : List (List UInt8)) (i : Nat) (h : i < l.length) : addT (foldT (l.take i)) (l.getD i []) = foldT (l.take (i + 1)) := by
  unfold foldT; rw [List.take_add_one, List.getElem?_eq_getElem h, List.foldl_append]; simp [List.getD, h]
theorem foldT_rep (l : List (List UInt8)) (h : (joinL l).length < 1000000000000) : Rep (joinL l) (foldT l) := by
  have := rep_fold l [] s0 (by show 0 + (joinL l).length < 1000000000000; omega) rep0
  rwa [List.nil_append] at this
theorem foldT_n (l : List (List UInt8)) (h : (joinL l).length < 1000000000000) : (foldT l).2.2 = (joinL l).length := (foldT_rep l h).n
theorem foldT_end (l : List (List UInt8)) (h : (joinL l).length < 1000000000) : endT (foldT l) = shaR (joinL l) := rep_end (foldT_rep l (by omega)) h
theorem few_take {l : List (List UInt8)} (h : few l) (k : Nat) : few (l.take k) := ⟨by have := h.1; simp; omega, fun s hs => h.2 s (List.mem_of_mem_take hs)⟩
theorem joinL_len {l : List (List UInt8)} (h : few l) : (joinL l).length ≤ 500000 := by
  have h1 := join_len h l.length (Nat.le_refl _)
  rw [List.take_length] at h1
  have := h.1; omega

set_option maxHeartbeats 4000000 in
theorem law_streams (hE : EOK G E) (hR : G 0 = some (KL.map n32)) (l : List (List UInt8)) (other : List UInt8) (at' : Nat) (ha : at' < 256) (hl : l.length ≤ 9223372036854775807) (hs : ∀ s ∈ l, s.length ≤ 9223372036854775807) (ho : other.length ≤ 9223372036854775807) :
    valP (cfW G T E) 4 [.sl 1 (strsV l), .str other, .int .u8 (at' : Nat)] = some (.ret (.bool true)) := by
  have hfw := few_ok hE l (by omega) (fun s h => by have := hs s h; omega)
  have w0 := wf0
  have wz := wfz
  refine vrun 16 (m := m4) hE rfl rfl rfl rfl ?_
  by_cases hf : fewB l = true
  · by_cases ho4 : other.length ≤ 400
    · have hff := few_of hf
      rw [hf] at hfw
      have hll := hff.1
      have hat : IntKind.i64.wrap (at' : Int) = (at' : Int) := wrap_i64n _ (by omega)
      have hmod : (at' : Int) % ((l.length : Int) + 1) = ((at' % (l.length + 1) : Nat) : Int) := by rw [Int.natCast_emod]; rfl
      have hkl : at' % (l.length + 1) ≤ l.length := by have := Nat.mod_lt at' (by omega : 0 < l.length + 1); omega
      generalize hk : at' % (l.length + 1) = k at *
      simp (maxSteps := 10000000) (disch := first | assumption | omega | (simp only [List.length_map, List.length_set, List.length_replicate, List.length_drop, List.length_take, List.length_append, List.length_cons, List.length_nil, bytes_len, strs_len] <;> omega) | with_reducible exact xor8_lt _ _ | with_reducible exact or8_lt _ _ | with_reducible exact toNat_lt8 _ | with_reducible exact rowP_ok _ _ _ _ _ | with_reducible exact rowOK_nil _ _ | (apply rowOK_put <;> first | assumption | exact rowP_ok _ _ _ _ _ | omega)) only [↓rsd, rsu, ↓reduceIte, Option.map_some, Option.map_none, Option.getD_some, Option.getD_none, List.map_cons, List.map_nil, List.cons_append, List.nil_append, List.append_nil, List.getD_cons_zero, List.getD_cons_succ, List.length_cons, List.length_nil, List.getElem?_cons_zero, List.getElem?_cons_succ, List.set_cons_zero, List.set_cons_succ, Nat.reduceEqDiff, Nat.reduceBEq, Nat.reduceAdd, Nat.reduceMul, Nat.reduceSub, Int.reduceToNat, List.length_set, List.length_replicate, List.length_map, eq_self, Nat.reduceLT, Nat.reduceLeDiff, List.flatMap_cons, List.flatMap_nil, List.all_cons, List.all_nil, List.isEmpty_nil, List.isEmpty_cons, Int.reduceAdd, Int.reduceMul, Int.reduceSub, Int.reduceNeg, Int.reduceDiv, Int.reduceMod, forall_const, m4, san_ok hE, hfw, hat, hmod, begin_okT hE, scT, frT, fmT, zT, storeT, allT]
      refine go_loop2 16 (fun c s => ∃ i : Nat, c = k - i ∧ i ≤ k ∧ s.N = 1 ∧ s.e 0 = .sl 1 (strsV l) ∧ s.e 1 = .str other ∧ s.e 7 = .bool true ∧ s.e 8 = .int .i64 k ∧ s.e 9 = .ptr 0 0 ∧ s.e 10 = .int .i64 i ∧ s.o 0 = .box (strmT (foldT (l.take i)))) k ?_ ?_
      · refine ⟨0, rfl, by omega, rfl, ?_⟩
        simp (maxSteps := 10000000) (disch := first | assumption | omega | (simp only [List.length_map, List.length_set, List.length_replicate, List.length_drop, List.length_take, List.length_append, List.length_cons, List.length_nil, bytes_len, strs_len] <;> omega) | with_reducible exact xor8_lt _ _ | with_reducible exact or8_lt _ _ | with_reducible exact toNat_lt8 _ | with_reducible exact rowP_ok _ _ _ _ _ | with_reducible exact rowOK_nil _ _ | (apply rowOK_put <;> first | assumption | exact rowP_ok _ _ _ _ _ | omega)) only [↓rsd, rsu, ↓reduceIte, Option.map_some, Option.map_none, Option.getD_some, Option.getD_none, List.map_cons, List.map_nil, List.cons_append, List.nil_append, List.append_nil, List.getD_cons_zero, List.getD_cons_succ, List.length_cons, List.length_nil, List.getElem?_cons_zero, List.getElem?_cons_succ, List.set_cons_zero, List.set_cons_succ, Nat.reduceEqDiff, Nat.reduceBEq, Nat.reduceAdd, Nat.reduceMul, Nat.reduceSub, Int.reduceToNat, List.length_set, List.length_replicate, List.length_map, eq_self, Nat.reduceLT, Nat.reduceLeDiff, List.flatMap_cons, List.flatMap_nil, List.all_cons, List.all_nil, List.isEmpty_nil, List.isEmpty_cons, Int.reduceAdd, Int.reduceMul, Int.reduceSub, Int.reduceNeg, Int.reduceDiv, Int.reduceMod, forall_const]
        exact ⟨rfl, rfl⟩
      · rintro c e o N ⟨i, hc, hi, rfl, e0, e1, e7, e8, e9, e10, o0⟩
        simp only at e0 e1 e7 e8 e9 e10 o0
        have hwf := foldT_wf (l.take i)
        by_cases hlt : i < k
        · have hwf2 := wf_add hwf (l.getD i [])
          have hst := foldT_step l i (by omega)
          simp (maxSteps := 10000000) (disch := first | assumption | omega | (simp only [List.length_map, List.length_set, List.length_replicate, List.length_drop, List.length_take, List.length_append, List.length_cons, List.length_nil, bytes_len, strs_len] <;> omega) | with_reducible exact xor8_lt _ _ | with_reducible exact or8_lt _ _ | with_reducible exact toNat_lt8 _ | with_reducible exact rowP_ok _ _ _ _ _ | with_reducible exact rowOK_nil _ _ | (apply rowOK_put <;> first | assumption | exact rowP_ok _ _ _ _ _ | omega)) only [↓rsd, rsu, ↓reduceIte, Option.map_some, Option.map_none, Option.getD_some, Option.getD_none, List.map_cons, List.map_nil, List.cons_append, List.nil_append, List.append_nil, List.getD_cons_zero, List.getD_cons_succ, List.length_cons, List.length_nil, List.getElem?_cons_zero, List.getElem?_cons_succ, List.set_cons_zero, List.set_cons_succ, Nat.reduceEqDiff, Nat.reduceBEq, Nat.reduceAdd, Nat.reduceMul, Nat.reduceSub, Int.reduceToNat, List.length_set, List.length_replicate, List.length_map, eq_self, Nat.reduceLT, Nat.reduceLeDiff, List.flatMap_cons, List.flatMap_nil, List.all_cons, List.all_nil, List.isEmpty_nil, List.isEmpty_cons, Int.reduceAdd, Int.reduceMul, Int.reduceSub, Int.reduceNeg, Int.reduceDiv, Int.reduceMod, forall_const, e0, e1, e7, e8, e9, e10, o0, scT, frT, fmT, cutT, storeT, allT, add_okT hE]
          exact ⟨_, by omega, i + 1, rfl, by omega, rfl, by rw [hst]⟩
        · have hik : i = k := by omega
          subst hik
          simp (maxSteps := 10000000) (disch := first | assumption | omega | (simp only [List.length_map, List.length_set, List.length_replicate, List.length_drop, List.length_take, List.length_append, List.length_cons, List.length_nil, bytes_len, strs_len] <;> omega) | with_reducible exact xor8_lt _ _ | with_reducible exact or8_lt _ _ | with_reducible exact toNat_lt8 _ | with_reducible exact rowP_ok _ _ _ _ _ | with_reducible exact rowOK_nil _ _ | (apply rowOK_put <;> first | assumption | exact rowP_ok _ _ _ _ _ | omega)) only [↓rsd, rsu, ↓reduceIte, Option.map_some, Option.map_none, Option.getD_some, Option.getD_none, List.map_cons, List.map_nil, List.cons_append, List.nil_append, List.append_nil, List.getD_cons_zero, List.getD_cons_succ, List.length_cons, List.length_nil, List.getElem?_cons_zero, List.getElem?_cons_succ, List.set_cons_zero, List.set_cons_succ, Nat.reduceEqDiff, Nat.reduceBEq, Nat.reduceAdd, Nat.reduceMul, Nat.reduceSub, Int.reduceToNat, List.length_set, List.length_replicate, List.length_map, eq_self, Nat.reduceLT, Nat.reduceLeDiff, List.flatMap_cons, List.flatMap_nil, List.all_cons, List.all_nil, List.isEmpty_nil, List.isEmpty_cons, Int.reduceAdd, Int.reduceMul, Int.reduceSub, Int.reduceNeg, Int.reduceDiv, Int.reduceMod, forall_const, e0, e1, e7, e8, e9, e10, o0, scT, frT, fmT, cutT, storeT, allT, zT]
          refine go_loop2 16 (fun c s => ∃ j : Nat, c = l.length - j ∧ j ≤ l.length ∧ s.N = 2 ∧ s.e 0 = .sl 1 (strsV l) ∧ s.e 1 = .str other ∧ s.e 7 = .bool true ∧ s.e 8 = .int .i64 i ∧ s.e 9 = .ptr 0 0 ∧ s.e 11 = .ptr 1 0 ∧ s.e 12 = .int .i64 j ∧ s.o 0 = .box (strmT (foldT (l.take j))) ∧ s.o 1 = .box (strmT (foldT (l.take i)))) (l.length - i) ?_ ?_
          · refine ⟨i, rfl, by omega, rfl, ?_⟩
            simp (maxSteps := 10000000) (disch := first | assumption | omega | (simp only [List.length_map, List.length_set, List.length_replicate, List.length_drop, List.length_take, List.length_append, List.length_cons, List.length_nil, bytes_len, strs_len] <;> omega) | with_reducible exact xor8_lt _ _ | with_reducible exact or8_lt _ _ | with_reducible exact toNat_lt8 _ | with_reducible exact rowP_ok _ _ _ _ _ | with_reducible exact rowOK_nil _ _ | (apply rowOK_put <;> first | assumption | exact rowP_ok _ _ _ _ _ | omega)) only [↓rsd, rsu, ↓reduceIte, Option.map_some, Option.map_none, Option.getD_some, Option.getD_none, List.map_cons, List.map_nil, List.cons_append, List.nil_append, List.append_nil, List.getD_cons_zero, List.getD_cons_succ, List.length_cons, List.length_nil, List.getElem?_cons_zero, List.getElem?_cons_succ, List.set_cons_zero, List.set_cons_succ, Nat.reduceEqDiff, Nat.reduceBEq, Nat.reduceAdd, Nat.reduceMul, Nat.reduceSub, Int.reduceToNat, List.length_set, List.length_replicate, List.length_map, eq_self, Nat.reduceLT, Nat.reduceLeDiff, List.flatMap_cons, List.flatMap_nil, List.all_cons, List.all_nil, List.isEmpty_nil, List.isEmpty_cons, Int.reduceAdd, Int.reduceMul, Int.reduceSub, Int.reduceNeg, Int.reduceDiv, Int.reduceMod, forall_const, e0, e1, e7, e8, e9, e10, o0]
          · clear e0 e1 e7 e8 e9 e10 o0 hc hi hlt
            rintro c e o N ⟨j, hc, hj, rfl, e0, e1, e7, e8, e9, e11, e12, o0, o1⟩
            simp only at e0 e1 e7 e8 e9 e11 e12 o0 o1
            have hwj := foldT_wf (l.take j)
            by_cases hjl : j < l.length
            · have hwf2 := wf_add hwj (l.getD j [])
              have hst := foldT_step l j hjl
              simp (maxSteps := 10000000) (disch := first | assumption | omega | (simp only [List.length_map, List.length_set, List.length_replicate, List.length_drop, List.length_take, List.length_append, List.length_cons, List.length_nil, bytes_len, strs_len] <;> omega) | with_reducible exact xor8_lt _ _ | with_reducible exact or8_lt _ _ | with_reducible exact toNat_lt8 _ | with_reducible exact rowP_ok _ _ _ _ _ | with_reducible exact rowOK_nil _ _ | (apply rowOK_put <;> first | assumption | exact rowP_ok _ _ _ _ _ | omega)) only [↓rsd, rsu, ↓reduceIte, Option.map_some, Option.map_none, Option.getD_some, Option.getD_none, List.map_cons, List.map_nil, List.cons_append, List.nil_append, List.append_nil, List.getD_cons_zero, List.getD_cons_succ, List.length_cons, List.length_nil, List.getElem?_cons_zero, List.getElem?_cons_succ, List.set_cons_zero, List.set_cons_succ, Nat.reduceEqDiff, Nat.reduceBEq, Nat.reduceAdd, Nat.reduceMul, Nat.reduceSub, Int.reduceToNat, List.length_set, List.length_replicate, List.length_map, eq_self, Nat.reduceLT, Nat.reduceLeDiff, List.flatMap_cons, List.flatMap_nil, List.all_cons, List.all_nil, List.isEmpty_nil, List.isEmpty_cons, Int.reduceAdd, Int.reduceMul, Int.reduceSub, Int.reduceNeg, Int.reduceDiv, Int.reduceMod, forall_const, e0, e1, e7, e8, e9, e11, e12, o0, o1, scT, frT, fmT, cutT, storeT, allT, add_okT hE]
              exact ⟨_, by omega, j + 1, rfl, by omega, rfl, by rw [hst]⟩
            · have hjj : j = l.length := by omega
              subst hjj
              rw [List.take_length] at *
              have hfk := few_take hff i
              have hwo := wf_add hwf other
              have j1 := joinL_len hff
              have j2 := joinL_len hfk
              have n1 := foldT_n l (by omega)
              have n2 := foldT_n (l.take i) (by omega)
              have n3 := addT_n (foldT (l.take i)) other (by omega)
              have x1 := foldT_end l (by omega)
              have x2 := foldT_end (l.take i) (by omega)
              have x3 : endT (addT (foldT (l.take i)) other) = shaR (joinL (l.take i) ++ other) := rep_end (rep_addT (foldT_rep _ (by omega)) other (by omega)) (by rw [List.length_append]; omega)
              have x4 := shaH_shaR (joinL l) (by omega)
              have y1 := shaR_len (joinL l)
              have y2 := shaR_len (joinL (l.take i))
              have y3 := shaR_len (joinL (l.take i) ++ other)
              simp (maxSteps := 10000000) (disch := first | assumption | omega | (simp only [List.length_map, List.length_set, List.length_replicate, List.length_drop, List.length_take, List.length_append, List.length_cons, List.length_nil, bytes_len, strs_len] <;> omega) | with_reducible exact xor8_lt _ _ | with_reducible exact or8_lt _ _ | with_reducible exact toNat_lt8 _ | with_reducible exact rowP_ok _ _ _ _ _ | with_reducible exact rowOK_nil _ _ | (apply rowOK_put <;> first | assumption | exact rowP_ok _ _ _ _ _ | omega)) only [↓rsd, rsu, ↓reduceIte, Option.map_some, Option.map_none, Option.getD_some, Option.getD_none, List.map_cons, List.map_nil, List.cons_append, List.nil_append, List.append_nil, List.getD_cons_zero, List.getD_cons_succ, List.length_cons, List.length_nil, List.getElem?_cons_zero, List.getElem?_cons_succ, List.set_cons_zero, List.set_cons_succ, Nat.reduceEqDiff, Nat.reduceBEq, Nat.reduceAdd, Nat.reduceMul, Nat.reduceSub, Int.reduceToNat, List.length_set, List.length_replicate, List.length_map, eq_self, Nat.reduceLT, Nat.reduceLeDiff, List.flatMap_cons, List.flatMap_nil, List.all_cons, List.all_nil, List.isEmpty_nil, List.isEmpty_cons, Int.reduceAdd, Int.reduceMul, Int.reduceSub, Int.reduceNeg, Int.reduceDiv, Int.reduceMod, forall_const, e0, e1, e7, e8, e9, e11, e12, o0, o1, scT, frT, fmT, cutT, storeT, allT, zT, add_okT hE, joined_ok hE, ssum_okT hE, rsum_ok hE hR, sum_ok hE, x1, x2, x3, x4, eqc32, beq_rfl, strs_take, Nat.sub_zero]
    · rw [hf] at hfw
      simp (maxSteps := 10000000) (disch := first | assumption | omega | (simp only [List.length_map, List.length_set, List.length_replicate, List.length_drop, List.length_take, List.length_append, List.length_cons, List.length_nil, bytes_len, strs_len] <;> omega) | with_reducible exact xor8_lt _ _ | with_reducible exact or8_lt _ _ | with_reducible exact toNat_lt8 _ | with_reducible exact rowP_ok _ _ _ _ _ | with_reducible exact rowOK_nil _ _ | (apply rowOK_put <;> first | assumption | exact rowP_ok _ _ _ _ _ | omega)) only [↓rsd, rsu, ↓reduceIte, Option.map_some, Option.map_none, Option.getD_some, Option.getD_none, List.map_cons, List.map_nil, List.cons_append, List.nil_append, List.append_nil, List.getD_cons_zero, List.getD_cons_succ, List.length_cons, List.length_nil, List.getElem?_cons_zero, List.getElem?_cons_succ, List.set_cons_zero, List.set_cons_succ, Nat.reduceEqDiff, Nat.reduceBEq, Nat.reduceAdd, Nat.reduceMul, Nat.reduceSub, Int.reduceToNat, List.length_set, List.length_replicate, List.length_map, eq_self, Nat.reduceLT, Nat.reduceLeDiff, List.flatMap_cons, List.flatMap_nil, List.all_cons, List.all_nil, List.isEmpty_nil, List.isEmpty_cons, Int.reduceAdd, Int.reduceMul, Int.reduceSub, Int.reduceNeg, Int.reduceDiv, Int.reduceMod, forall_const, m4, san_ok hE, hfw]
  · have hf' : fewB l = false := by simpa using hf
    rw [hf'] at hfw
    simp (maxSteps := 10000000) (disch := first | assumption | omega | (simp only [List.length_map, List.length_set, List.length_replicate, List.length_drop, List.length_take, List.length_append, List.length_cons, List.length_nil, bytes_len, strs_len] <;> omega) | with_reducible exact xor8_lt _ _ | with_reducible exact or8_lt _ _ | with_reducible exact toNat_lt8 _ | with_reducible exact rowP_ok _ _ _ _ _ | with_reducible exact rowOK_nil _ _ | (apply rowOK_put <;> first | assumption | exact rowP_ok _ _ _ _ _ | omega)) only [↓rsd, rsu, ↓reduceIte, Option.map_some, Option.map_none, Option.getD_some, Option.getD_none, List.map_cons, List.map_nil, List.cons_append, List.nil_append, List.append_nil, List.getD_cons_zero, List.getD_cons_succ, List.length_cons, List.length_nil, List.getElem?_cons_zero, List.getElem?_cons_succ, List.set_cons_zero, List.set_cons_succ, Nat.reduceEqDiff, Nat.reduceBEq, Nat.reduceAdd, Nat.reduceMul, Nat.reduceSub, Int.reduceToNat, List.length_set, List.length_replicate, List.length_map, eq_self, Nat.reduceLT, Nat.reduceLeDiff, List.flatMap_cons, List.flatMap_nil, List.all_cons, List.all_nil, List.isEmpty_nil, List.isEmpty_cons, Int.reduceAdd, Int.reduceMul, Int.reduceSub, Int.reduceNeg, Int.reduceDiv, Int.reduceMod, forall_const, m4, san_ok hE, hfw]
end Go.Proofs.YtoccgkgdhobmfaaDoor.Am.Ru
