/- The abstract machine and the contracts of the program, part Wl. -/
import Derived.Test.YtoccgkgdhobmfaaDoorWk
set_option maxRecDepth 100000
set_option linter.unusedSimpArgs false
set_option linter.unusedVariables false
namespace Go.Proofs.YtoccgkgdhobmfaaDoor.Am.Ru
open Go
variable {G : Nat → Option (List V)} {E : Nat → Option (CallFn → List V → Hp → Nat → Option Out)}

theorem or8_zero (x y : Nat) (hx : x < 256) (hy : y < 256) : or8 x y = 0 ↔ x = 0 ∧ y = 0 := by
  unfold or8
  have h : x ||| y < 2 ^ 8 := Nat.or_lt_two_pow (by simpa using hx) (by simpa using hy)
  rw [Nat.mod_eq_of_lt (by simpa using h)]
  constructor
  · intro h
    have := Nat.left_le_or (n := x) (m := y)
    have := Nat.right_le_or (n := x) (m := y)
    omega
  · rintro ⟨rfl, rfl⟩; rfl
theorem xor8_zero (x y : Nat) (hx : x < 256) (hy : y < 256) : xor8 x y = 0 ↔ x = y := by
  unfold xor8
  have h : x ^^^ y < 2 ^ 8 := Nat.xor_lt_two_pow (by simpa using hx) (by simpa using hy)
  rw [Nat.mod_eq_of_lt (by simpa using h)]
  constructor
  · intro h
    have h2 : (x ^^^ y) ^^^ y = 0 ^^^ y := by rw [h]
    rw [Nat.xor_assoc, Nat.xor_self, Nat.xor_zero, Nat.zero_xor] at h2
    exact h2
  · rintro rfl; exact Nat.xor_self x
theorem dif_lt (a b : List UInt8) (i : Nat) : dif a b i < 256 := by
  cases i with
  | zero => exact (by decide : (0 : Nat) < 256)
  | succ i => exact or8_lt _ _
theorem dif_zero (a b : List UInt8) : ∀ i, i ≤ a.length → i ≤ b.length → (dif a b i = 0 ↔ a.take i = b.take i) := by
  intro i
  induction i with
  | zero => intro _ _; simp [dif]
  | succ i ih =>
    intro ha hb
    rw [dif, or8_zero _ _ (dif_lt a b i) (xor8_lt _ _), ih (by omega) (by omega), xor8_zero _ _ (toNat_lt8 _) (toNat_lt8 _), take_succ_getD a i ha, take_succ_getD b i hb]
    constructor
    · rintro ⟨h1, h2⟩; rw [h1, UInt8.toNat_inj.1 h2]
    · intro h
      have h3 := List.append_inj h (by simp; omega)
      refine ⟨h3.1, ?_⟩
      have := h3.2
      injection this with h4
      rw [h4]
theorem equal_ok2 (hE : EOK G E) (a b : List UInt8) (ha : a.length < 9223372036854775808) : valP (cfW G T E) 28 [.str a, .str b] = some (.ret (.bool (a == b))) := by
  rw [equal_ok hE a b ha]
  congr 3
  by_cases hl : a.length = b.length
  · rw [if_pos hl]
    have h := dif_zero a b a.length (Nat.le_refl _) (by omega)
    rw [List.take_length, hl, List.take_length, ← hl] at h
    by_cases hab : a = b
    · rw [decide_eq_true (h.2 hab), hab, beq_self_eq_true]
    · rw [decide_eq_false (fun hh => hab (h.1 hh))]; simp [hab]
  · rw [if_neg hl]
    have : a ≠ b := fun h => hl (by rw [h])
    simp [this]
theorem beq_comm8 (a b : List UInt8) : (b == a) = (a == b) := by
  by_cases h : a = b
  · subst h; rfl
  · have h' : b ≠ a := fun hh => h hh.symm
    rw [beq_eq_false_iff_ne.2 h, beq_eq_false_iff_ne.2 h']
theorem law_eq (hE : EOK G E) (a b : List UInt8) (ha : a.length ≤ 9223372036854775807) (hb : b.length ≤ 9223372036854775807) : valP (cfW G T E) 9 [.str a, .str b] = some (.ret (.bool true)) := by
  refine vrun 9 (m := m9) hE rfl rfl rfl rfl ?_
  by_cases hl : a.length ≤ 400
  · by_cases hl2 : b.length ≤ 400
    · have hc := beq_comm8 a b
      simp (maxSteps := 10000000) (disch := first | assumption | omega | (simp only [List.length_map, List.length_set, List.length_replicate, List.length_drop, List.length_take, List.length_append, List.length_cons, List.length_nil, bytes_len, strs_len] <;> omega) | with_reducible exact xor8_lt _ _ | with_reducible exact or8_lt _ _ | with_reducible exact toNat_lt8 _ | with_reducible exact rowP_ok _ _ _ _ _ | with_reducible exact rowOK_nil _ _ | (apply rowOK_put <;> first | assumption | exact rowP_ok _ _ _ _ _ | omega)) only [↓rsd, rsu, ↓reduceIte, Option.map_some, Option.map_none, Option.getD_some, Option.getD_none, List.map_cons, List.map_nil, List.cons_append, List.nil_append, List.append_nil, List.getD_cons_zero, List.getD_cons_succ, List.length_cons, List.length_nil, List.getElem?_cons_zero, List.getElem?_cons_succ, List.set_cons_zero, List.set_cons_succ, Nat.reduceEqDiff, Nat.reduceBEq, Nat.reduceAdd, Nat.reduceMul, Nat.reduceSub, Int.reduceToNat, List.length_set, List.length_replicate, List.length_map, eq_self, Nat.reduceLT, Nat.reduceLeDiff, List.flatMap_cons, List.flatMap_nil, List.all_cons, List.all_nil, List.isEmpty_nil, List.isEmpty_cons, Int.reduceAdd, Int.reduceMul, Int.reduceSub, Int.reduceNeg, Int.reduceDiv, Int.reduceMod, forall_const, m9, san_ok hE, equal_ok2 hE, hc, beq_rfl, beq_bool]
    · simp (maxSteps := 10000000) (disch := first | assumption | omega | (simp only [List.length_map, List.length_set, List.length_replicate, List.length_drop, List.length_take, List.length_append, List.length_cons, List.length_nil, bytes_len, strs_len] <;> omega) | with_reducible exact xor8_lt _ _ | with_reducible exact or8_lt _ _ | with_reducible exact toNat_lt8 _ | with_reducible exact rowP_ok _ _ _ _ _ | with_reducible exact rowOK_nil _ _ | (apply rowOK_put <;> first | assumption | exact rowP_ok _ _ _ _ _ | omega)) only [↓rsd, rsu, ↓reduceIte, Option.map_some, Option.map_none, Option.getD_some, Option.getD_none, List.map_cons, List.map_nil, List.cons_append, List.nil_append, List.append_nil, List.getD_cons_zero, List.getD_cons_succ, List.length_cons, List.length_nil, List.getElem?_cons_zero, List.getElem?_cons_succ, List.set_cons_zero, List.set_cons_succ, Nat.reduceEqDiff, Nat.reduceBEq, Nat.reduceAdd, Nat.reduceMul, Nat.reduceSub, Int.reduceToNat, List.length_set, List.length_replicate, List.length_map, eq_self, Nat.reduceLT, Nat.reduceLeDiff, List.flatMap_cons, List.flatMap_nil, List.all_cons, List.all_nil, List.isEmpty_nil, List.isEmpty_cons, Int.reduceAdd, Int.reduceMul, Int.reduceSub, Int.reduceNeg, Int.reduceDiv, Int.reduceMod, forall_const, m9, san_ok hE]
  · simp (maxSteps := 10000000) (disch := first | assumption | omega | (simp only [List.length_map, List.length_set, List.length_replicate, List.length_drop, List.length_take, List.length_append, List.length_cons, List.length_nil, bytes_len, strs_len] <;> omega) | with_reducible exact xor8_lt _ _ | with_reducible exact or8_lt _ _ | with_reducible exact toNat_lt8 _ | with_reducible exact rowP_ok _ _ _ _ _ | with_reducible exact rowOK_nil _ _ | (apply rowOK_put <;> first | assumption | exact rowP_ok _ _ _ _ _ | omega)) only [↓rsd, rsu, ↓reduceIte, Option.map_some, Option.map_none, Option.getD_some, Option.getD_none, List.map_cons, List.map_nil, List.cons_append, List.nil_append, List.append_nil, List.getD_cons_zero, List.getD_cons_succ, List.length_cons, List.length_nil, List.getElem?_cons_zero, List.getElem?_cons_succ, List.set_cons_zero, List.set_cons_succ, Nat.reduceEqDiff, Nat.reduceBEq, Nat.reduceAdd, Nat.reduceMul, Nat.reduceSub, Int.reduceToNat, List.length_set, List.length_replicate, List.length_map, eq_self, Nat.reduceLT, Nat.reduceLeDiff, List.flatMap_cons, List.flatMap_nil, List.all_cons, List.all_nil, List.isEmpty_nil, List.isEmpty_cons, Int.reduceAdd, Int.reduceMul, Int.reduceSub, Int.reduceNeg, Int.reduceDiv, Int.reduceMod, forall_const, m9, san_ok hE]

theorem keyR_sha (key : List UInt8) (h : 64 < key.length) : keyR (shaR key) = keyR key := by
  unfold keyR; rw [if_pos h, if_neg (by rw [shaR_len]; omega)]
theorem mac_long (key text : List UInt8) (hk : key.length ≤ 900000) (ht : text.length ≤ 900000) (h : 64 < key.length) : macH (shaH key) text = macH key text := by
  rw [mac_same _ _ (by rw [shaH_len]; omega) ht, mac_same _ _ hk ht, shaH_shaR _ (by omega)]
  unfold macR; rw [keyR_sha _ h]
theorem pk_zero (key : List UInt8) (w : Nat) : ∀ i, pk (key ++ [0]) w i = pk key w i := by
  intro i
  induction i with
  | zero => rfl
  | succ i ih =>
    rw [pk, pk, ih]
    congr 4
    by_cases h : i < key.length
    · rw [if_pos h, if_pos (by simp; omega), List.getD, List.getElem?_append_left h]; rfl
    · rw [if_neg h]
      by_cases h2 : i = key.length
      · subst h2; rw [if_pos (by simp)]; simp [List.getD]
      · rw [if_neg (by simp; omega)]
theorem mac_short (key text : List UInt8) (ht : text.length ≤ 900000) (h : key.length < 64) : macH (key ++ [0]) text = macH key text := by
  have h1 : keyR (key ++ [0]) = key ++ [0] := by unfold keyR; rw [if_neg (by simp; omega)]
  have h2 : keyR key = key := by unfold keyR; rw [if_neg (by omega)]
  rw [mac_same _ _ (by simp; omega) ht, mac_same _ _ (by omega) ht]
  unfold macR
  rw [h1, h2, pk_zero, pk_zero]
theorem law_keys (hE : EOK G E) (key text : List UInt8) (hk : key.length ≤ 9223372036854775807) (ht : text.length ≤ 9223372036854775807) : valP (cfW G T E) 6 [.str key, .str text] = some (.ret (.bool true)) := by
  refine vrun 8 (m := m6) hE rfl rfl rfl rfl ?_
  by_cases hl : key.length ≤ 400
  · by_cases hl2 : text.length ≤ 400
    · have hml := macH_len key text
      have hsl := shaH_len key
      rcases Nat.lt_trichotomy key.length 64 with h | h | h
      · have hs := mac_short key text (by omega) h
        simp (maxSteps := 10000000) (disch := first | assumption | omega | (simp only [List.length_map, List.length_set, List.length_replicate, List.length_drop, List.length_take, List.length_append, List.length_cons, List.length_nil, bytes_len, strs_len] <;> omega) | with_reducible exact xor8_lt _ _ | with_reducible exact or8_lt _ _ | with_reducible exact toNat_lt8 _ | with_reducible exact rowP_ok _ _ _ _ _ | with_reducible exact rowOK_nil _ _ | (apply rowOK_put <;> first | assumption | exact rowP_ok _ _ _ _ _ | omega)) only [↓rsd, rsu, ↓reduceIte, Option.map_some, Option.map_none, Option.getD_some, Option.getD_none, List.map_cons, List.map_nil, List.cons_append, List.nil_append, List.append_nil, List.getD_cons_zero, List.getD_cons_succ, List.length_cons, List.length_nil, List.getElem?_cons_zero, List.getElem?_cons_succ, List.set_cons_zero, List.set_cons_succ, Nat.reduceEqDiff, Nat.reduceBEq, Nat.reduceAdd, Nat.reduceMul, Nat.reduceSub, Int.reduceToNat, List.length_set, List.length_replicate, List.length_map, eq_self, Nat.reduceLT, Nat.reduceLeDiff, List.flatMap_cons, List.flatMap_nil, List.all_cons, List.all_nil, List.isEmpty_nil, List.isEmpty_cons, Int.reduceAdd, Int.reduceMul, Int.reduceSub, Int.reduceNeg, Int.reduceDiv, Int.reduceMod, forall_const, m6, san_ok hE, mac_ok hE, hs, beq_rfl]
      · simp (maxSteps := 10000000) (disch := first | assumption | omega | (simp only [List.length_map, List.length_set, List.length_replicate, List.length_drop, List.length_take, List.length_append, List.length_cons, List.length_nil, bytes_len, strs_len] <;> omega) | with_reducible exact xor8_lt _ _ | with_reducible exact or8_lt _ _ | with_reducible exact toNat_lt8 _ | with_reducible exact rowP_ok _ _ _ _ _ | with_reducible exact rowOK_nil _ _ | (apply rowOK_put <;> first | assumption | exact rowP_ok _ _ _ _ _ | omega)) only [↓rsd, rsu, ↓reduceIte, Option.map_some, Option.map_none, Option.getD_some, Option.getD_none, List.map_cons, List.map_nil, List.cons_append, List.nil_append, List.append_nil, List.getD_cons_zero, List.getD_cons_succ, List.length_cons, List.length_nil, List.getElem?_cons_zero, List.getElem?_cons_succ, List.set_cons_zero, List.set_cons_succ, Nat.reduceEqDiff, Nat.reduceBEq, Nat.reduceAdd, Nat.reduceMul, Nat.reduceSub, Int.reduceToNat, List.length_set, List.length_replicate, List.length_map, eq_self, Nat.reduceLT, Nat.reduceLeDiff, List.flatMap_cons, List.flatMap_nil, List.all_cons, List.all_nil, List.isEmpty_nil, List.isEmpty_cons, Int.reduceAdd, Int.reduceMul, Int.reduceSub, Int.reduceNeg, Int.reduceDiv, Int.reduceMod, forall_const, m6, san_ok hE, mac_ok hE, hml]
      · have hs := mac_long key text (by omega) (by omega) h
        simp (maxSteps := 10000000) (disch := first | assumption | omega | (simp only [List.length_map, List.length_set, List.length_replicate, List.length_drop, List.length_take, List.length_append, List.length_cons, List.length_nil, bytes_len, strs_len] <;> omega) | with_reducible exact xor8_lt _ _ | with_reducible exact or8_lt _ _ | with_reducible exact toNat_lt8 _ | with_reducible exact rowP_ok _ _ _ _ _ | with_reducible exact rowOK_nil _ _ | (apply rowOK_put <;> first | assumption | exact rowP_ok _ _ _ _ _ | omega)) only [↓rsd, rsu, ↓reduceIte, Option.map_some, Option.map_none, Option.getD_some, Option.getD_none, List.map_cons, List.map_nil, List.cons_append, List.nil_append, List.append_nil, List.getD_cons_zero, List.getD_cons_succ, List.length_cons, List.length_nil, List.getElem?_cons_zero, List.getElem?_cons_succ, List.set_cons_zero, List.set_cons_succ, Nat.reduceEqDiff, Nat.reduceBEq, Nat.reduceAdd, Nat.reduceMul, Nat.reduceSub, Int.reduceToNat, List.length_set, List.length_replicate, List.length_map, eq_self, Nat.reduceLT, Nat.reduceLeDiff, List.flatMap_cons, List.flatMap_nil, List.all_cons, List.all_nil, List.isEmpty_nil, List.isEmpty_cons, Int.reduceAdd, Int.reduceMul, Int.reduceSub, Int.reduceNeg, Int.reduceDiv, Int.reduceMod, forall_const, m6, san_ok hE, mac_ok hE, sum_ok hE, bytes32_ok hE, hs, beq_rfl]
    · simp (maxSteps := 10000000) (disch := first | assumption | omega | (simp only [List.length_map, List.length_set, List.length_replicate, List.length_drop, List.length_take, List.length_append, List.length_cons, List.length_nil, bytes_len, strs_len] <;> omega) | with_reducible exact xor8_lt _ _ | with_reducible exact or8_lt _ _ | with_reducible exact toNat_lt8 _ | with_reducible exact rowP_ok _ _ _ _ _ | with_reducible exact rowOK_nil _ _ | (apply rowOK_put <;> first | assumption | exact rowP_ok _ _ _ _ _ | omega)) only [↓rsd, rsu, ↓reduceIte, Option.map_some, Option.map_none, Option.getD_some, Option.getD_none, List.map_cons, List.map_nil, List.cons_append, List.nil_append, List.append_nil, List.getD_cons_zero, List.getD_cons_succ, List.length_cons, List.length_nil, List.getElem?_cons_zero, List.getElem?_cons_succ, List.set_cons_zero, List.set_cons_succ, Nat.reduceEqDiff, Nat.reduceBEq, Nat.reduceAdd, Nat.reduceMul, Nat.reduceSub, Int.reduceToNat, List.length_set, List.length_replicate, List.length_map, eq_self, Nat.reduceLT, Nat.reduceLeDiff, List.flatMap_cons, List.flatMap_nil, List.all_cons, List.all_nil, List.isEmpty_nil, List.isEmpty_cons, Int.reduceAdd, Int.reduceMul, Int.reduceSub, Int.reduceNeg, Int.reduceDiv, Int.reduceMod, forall_const, m6, san_ok hE]
  · simp (maxSteps := 10000000) (disch := first | assumption | omega | (simp only [List.length_map, List.length_set, List.length_replicate, List.length_drop, List.length_take, List.length_append, List.length_cons, List.length_nil, bytes_len, strs_len] <;> omega) | with_reducible exact xor8_lt _ _ | with_reducible exact or8_lt _ _ | with_reducible exact toNat_lt8 _ | with_reducible exact rowP_ok _ _ _ _ _ | with_reducible exact rowOK_nil _ _ | (apply rowOK_put <;> first | assumption | exact rowP_ok _ _ _ _ _ | omega)) only [↓rsd, rsu, ↓reduceIte, Option.map_some, Option.map_none, Option.getD_some, Option.getD_none, List.map_cons, List.map_nil, List.cons_append, List.nil_append, List.append_nil, List.getD_cons_zero, List.getD_cons_succ, List.length_cons, List.length_nil, List.getElem?_cons_zero, List.getElem?_cons_succ, List.set_cons_zero, List.set_cons_succ, Nat.reduceEqDiff, Nat.reduceBEq, Nat.reduceAdd, Nat.reduceMul, Nat.reduceSub, Int.reduceToNat, List.length_set, List.length_replicate, List.length_map, eq_self, Nat.reduceLT, Nat.reduceLeDiff, List.flatMap_cons, List.flatMap_nil, List.all_cons, List.all_nil, List.isEmpty_nil, List.isEmpty_cons, Int.reduceAdd, Int.reduceMul, Int.reduceSub, Int.reduceNeg, Int.reduceDiv, Int.reduceMod, forall_const, m6, san_ok hE]
end Go.Proofs.YtoccgkgdhobmfaaDoor.Am.Ru
