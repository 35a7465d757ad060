/- The abstract machine and the contracts of the program, part Wi. -/
import Derived.Test.YtoccgkgdhobmfaaDoorWh
set_option maxRecDepth 100000
set_option linter.unusedSimpArgs false
set_option linter.unusedVariables false
namespace Go.Proofs.YtoccgkgdhobmfaaDoor.Am.Ru
open Go
variable {G : Nat → Option (List V)} {E : Nat → Option (CallFn → List V → Hp → Nat → Option Out)}

/-! ### Numbers as bytes -/
theorem not_nat (w a : Nat) (h : a < 2 ^ w) : (2 ^ w - 1) ^^^ a = 2 ^ w - 1 - a := by
  have h1 : (~~~ (BitVec.ofNat w a)).toNat = 2 ^ w - 1 - a := by rw [BitVec.toNat_not, BitVec.toNat_ofNat, Nat.mod_eq_of_lt h]
  have h2 : ~~~ (BitVec.ofNat w a) = BitVec.allOnes w ^^^ BitVec.ofNat w a := BitVec.not_def
  rw [h2, BitVec.toNat_xor, BitVec.toNat_allOnes, BitVec.toNat_ofNat, Nat.mod_eq_of_lt h] at h1
  exact h1
theorem not64_eq (a : Nat) (h : a < 18446744073709551616) : not64u a = 18446744073709551615 - a := by
  have := not_nat 64 a (by simpa using h)
  unfold not64u
  rw [show (18446744073709551615 : Nat) = 2 ^ 64 - 1 from rfl, this]
  omega
theorem xor8_255 (a : Nat) (h : a < 256) : xor8 a 255 = 255 - a := by
  have := not_nat 8 a (by simpa using h)
  unfold xor8
  rw [Nat.xor_comm, show (255 : Nat) = 2 ^ 8 - 1 from rfl, this]
  omega
theorem xor8_0 (a : Nat) (h : a < 256) : xor8 a 0 = a := by unfold xor8; rw [Nat.xor_zero]; omega

/-- How many bytes a number takes, at most 'k'. -/
def kw (m : Nat) : Nat → Nat
  | 0 => 0
  | k + 1 => if 0 < shr64u m (8 * k) then k + 1 else kw m k
theorem kw_le (m k : Nat) : kw m k ≤ k := by
  induction k with
  | zero => exact Nat.le_refl _
  | succ k ih => simp only [kw]; split <;> omega
/-- The bytes of a number, each combined. -/
def wT (m f : Nat) : Nat → List UInt8
  | 0 => []
  | k + 1 => UInt8.ofNat (xor8 (shr64u m (8 * k) % 256) f) :: wT m f k
theorem wT_len (m f k : Nat) : (wT m f k).length = k := by
  induction k with
  | zero => rfl
  | succ k ih => simp [wT, ih]
def wInt (m f : Nat) : List UInt8 := UInt8.ofNat (xor8 ((128 + kw m 8) % 256) f) :: wT m f (kw m 8)
def mag (n : Int) : Nat := if n < 0 then (-1 - n).toNat else n.toNat
def flip (n : Int) : Nat := if n < 0 then 255 else 0
/-- The encoding of a number. -/
def intB (n : Int) : List UInt8 := wInt (mag n) (flip n)
theorem intB_len (n : Int) : (intB n).length = 1 + kw (mag n) 8 := by unfold intB wInt; simp [wT_len]; omega
theorem intB_lt (n : Int) : (intB n).length ≤ 9 := by rw [intB_len]; have := kw_le (mag n) 8; omega
theorem intB_ne (n : Int) : intB n ≠ [] := by unfold intB wInt; simp

set_option maxHeartbeats 4000000 in
/-- What is done behind the first lines. -/
theorem wint_go (hE : EOK G E) (n : Int) (m f : Nat) (h0 : -9223372036854775808 ≤ n) (h1 : n < 9223372036854775808) (hm : m = mag n) (hf : f = flip n) :
    valP (cfW G T E) 64 [.int .i64 n] = some (.ret (.own 1 (bytesV (wInt m f)))) := by
  have hmb : m < 9223372036854775808 := by subst hm; unfold mag; split <;> omega
  have hk8 := kw_le m 8
  have key : ∀ (e : Env) (k : List Fr), e 2 = .nils 1 → True := fun _ _ _ => trivial
  refine vrun 8 (m := m64) hE rfl rfl rfl rfl ?_
  have hw : n < 0 → IntKind.u64.wrap n = ((18446744073709551615 - m : Nat) : Int) := by
    intro hn; rw [w64, hm]; unfold mag; rw [if_pos hn]; omega
  have hw' : ¬ n < 0 → IntKind.u64.wrap n = ((m : Nat) : Int) := by
    intro hn; rw [w64, hm]; unfold mag; rw [if_neg hn]; omega
  have hnm : not64u (18446744073709551615 - m) = m := by rw [not64_eq _ (by omega)]; omega
  rcases Decidable.em (n < 0) with hn | hn
  case' inl =>
    have hff : f = 255 := by rw [hf]; unfold flip; rw [if_pos hn]
    simp (maxSteps := 10000000) (disch := first | assumption | omega | (simp only [List.length_map, List.length_set, List.length_replicate, List.length_drop, List.length_take, List.length_append, List.length_cons, List.length_nil, bytes_len, strs_len] <;> omega) | with_reducible exact xor8_lt _ _ | with_reducible exact or8_lt _ _ | with_reducible exact toNat_lt8 _ | with_reducible exact rowP_ok _ _ _ _ _ | with_reducible exact rowOK_nil _ _ | (apply rowOK_put <;> first | assumption | exact rowP_ok _ _ _ _ _ | omega)) only [↓rsd, rsu, ↓reduceIte, Option.map_some, Option.map_none, Option.getD_some, Option.getD_none, List.map_cons, List.map_nil, List.cons_append, List.nil_append, List.append_nil, List.getD_cons_zero, List.getD_cons_succ, List.length_cons, List.length_nil, List.getElem?_cons_zero, List.getElem?_cons_succ, List.set_cons_zero, List.set_cons_succ, Nat.reduceEqDiff, Nat.reduceBEq, Nat.reduceAdd, Nat.reduceMul, Nat.reduceSub, Int.reduceToNat, List.length_set, List.length_replicate, List.length_map, eq_self, Nat.reduceLT, Nat.reduceLeDiff, List.flatMap_cons, List.flatMap_nil, List.all_cons, List.all_nil, List.isEmpty_nil, List.isEmpty_cons, Int.reduceAdd, Int.reduceMul, Int.reduceSub, Int.reduceNeg, Int.reduceDiv, Int.reduceMod, forall_const, m64, hw hn, hnm]
  case' inr =>
    have hff : f = 0 := by rw [hf]; unfold flip; rw [if_neg hn]
    simp (maxSteps := 10000000) (disch := first | assumption | omega | (simp only [List.length_map, List.length_set, List.length_replicate, List.length_drop, List.length_take, List.length_append, List.length_cons, List.length_nil, bytes_len, strs_len] <;> omega) | with_reducible exact xor8_lt _ _ | with_reducible exact or8_lt _ _ | with_reducible exact toNat_lt8 _ | with_reducible exact rowP_ok _ _ _ _ _ | with_reducible exact rowOK_nil _ _ | (apply rowOK_put <;> first | assumption | exact rowP_ok _ _ _ _ _ | omega)) only [↓rsd, rsu, ↓reduceIte, Option.map_some, Option.map_none, Option.getD_some, Option.getD_none, List.map_cons, List.map_nil, List.cons_append, List.nil_append, List.append_nil, List.getD_cons_zero, List.getD_cons_succ, List.length_cons, List.length_nil, List.getElem?_cons_zero, List.getElem?_cons_succ, List.set_cons_zero, List.set_cons_succ, Nat.reduceEqDiff, Nat.reduceBEq, Nat.reduceAdd, Nat.reduceMul, Nat.reduceSub, Int.reduceToNat, List.length_set, List.length_replicate, List.length_map, eq_self, Nat.reduceLT, Nat.reduceLeDiff, List.flatMap_cons, List.flatMap_nil, List.all_cons, List.all_nil, List.isEmpty_nil, List.isEmpty_cons, Int.reduceAdd, Int.reduceMul, Int.reduceSub, Int.reduceNeg, Int.reduceDiv, Int.reduceMod, forall_const, m64, hw' hn]
  all_goals
    have hfb : f < 256 := by omega
    refine go_loop2 8 (fun c s => ∃ k : Nat, c = k ∧ k ≤ 8 ∧ kw m k = kw m 8 ∧ s.N = 0 ∧ s.e 3 = .int .u64 (m : Nat) ∧ s.e 4 = .int .u8 (f : Nat) ∧ s.e 5 = .int .i64 k) 8 ?_ ?_
    · refine ⟨8, rfl, Nat.le_refl _, rfl, rfl, ?_⟩
      simp (maxSteps := 10000000) (disch := first | assumption | omega | (simp only [List.length_map, List.length_set, List.length_replicate, List.length_drop, List.length_take, List.length_append, List.length_cons, List.length_nil, bytes_len, strs_len] <;> omega) | with_reducible exact xor8_lt _ _ | with_reducible exact or8_lt _ _ | with_reducible exact toNat_lt8 _ | with_reducible exact rowP_ok _ _ _ _ _ | with_reducible exact rowOK_nil _ _ | (apply rowOK_put <;> first | assumption | exact rowP_ok _ _ _ _ _ | omega)) only [↓rsd, rsu, ↓reduceIte, Option.map_some, Option.map_none, Option.getD_some, Option.getD_none, List.map_cons, List.map_nil, List.cons_append, List.nil_append, List.append_nil, List.getD_cons_zero, List.getD_cons_succ, List.length_cons, List.length_nil, List.getElem?_cons_zero, List.getElem?_cons_succ, List.set_cons_zero, List.set_cons_succ, Nat.reduceEqDiff, Nat.reduceBEq, Nat.reduceAdd, Nat.reduceMul, Nat.reduceSub, Int.reduceToNat, List.length_set, List.length_replicate, List.length_map, eq_self, Nat.reduceLT, Nat.reduceLeDiff, List.flatMap_cons, List.flatMap_nil, List.all_cons, List.all_nil, List.isEmpty_nil, List.isEmpty_cons, Int.reduceAdd, Int.reduceMul, Int.reduceSub, Int.reduceNeg, Int.reduceDiv, Int.reduceMod, forall_const]
      exact ⟨by rw [hff], rfl⟩
    · rintro c e o N ⟨k, hc, hk, hkw, rfl, e3, e4, e5⟩
      simp only at e3 e4 e5
      have hk1 : IntKind.u8.wrap (128 + (k : Int)) = (((128 + k) % 256 : Nat) : Int) := by rw [IntKind.wrap_u8]; omega
      have hc3 : (0 < k ∧ 0 < shr64u m (8 * (k - 1))) ∨ k = 0 ∨ (0 < k ∧ ¬ 0 < shr64u m (8 * (k - 1))) := by omega
      rcases hc3 with ⟨hz, hs⟩ | hz | ⟨hz, hs⟩
      case' inl =>
        have hkk : kw m 8 = k := by
          rw [← hkw]
          obtain ⟨j, rfl⟩ : ∃ j, k = j + 1 := ⟨k - 1, by omega⟩
          simp only [kw]; rw [if_pos (by simpa using hs)]
        simp (maxSteps := 10000000) (disch := first | assumption | omega | (simp only [List.length_map, List.length_set, List.length_replicate, List.length_drop, List.length_take, List.length_append, List.length_cons, List.length_nil, bytes_len, strs_len] <;> omega) | with_reducible exact xor8_lt _ _ | with_reducible exact or8_lt _ _ | with_reducible exact toNat_lt8 _ | with_reducible exact rowP_ok _ _ _ _ _ | with_reducible exact rowOK_nil _ _ | (apply rowOK_put <;> first | assumption | exact rowP_ok _ _ _ _ _ | omega)) only [↓rsd, rsu, ↓reduceIte, Option.map_some, Option.map_none, Option.getD_some, Option.getD_none, List.map_cons, List.map_nil, List.cons_append, List.nil_append, List.append_nil, List.getD_cons_zero, List.getD_cons_succ, List.length_cons, List.length_nil, List.getElem?_cons_zero, List.getElem?_cons_succ, List.set_cons_zero, List.set_cons_succ, Nat.reduceEqDiff, Nat.reduceBEq, Nat.reduceAdd, Nat.reduceMul, Nat.reduceSub, Int.reduceToNat, List.length_set, List.length_replicate, List.length_map, eq_self, Nat.reduceLT, Nat.reduceLeDiff, List.flatMap_cons, List.flatMap_nil, List.all_cons, List.all_nil, List.isEmpty_nil, List.isEmpty_cons, Int.reduceAdd, Int.reduceMul, Int.reduceSub, Int.reduceNeg, Int.reduceDiv, Int.reduceMod, forall_const, e3, e4, e5, hk1]
      case' inr.inl =>
        have hkk : kw m 8 = k := by rw [← hkw, hz]; rfl
        simp (maxSteps := 10000000) (disch := first | assumption | omega | (simp only [List.length_map, List.length_set, List.length_replicate, List.length_drop, List.length_take, List.length_append, List.length_cons, List.length_nil, bytes_len, strs_len] <;> omega) | with_reducible exact xor8_lt _ _ | with_reducible exact or8_lt _ _ | with_reducible exact toNat_lt8 _ | with_reducible exact rowP_ok _ _ _ _ _ | with_reducible exact rowOK_nil _ _ | (apply rowOK_put <;> first | assumption | exact rowP_ok _ _ _ _ _ | omega)) only [↓rsd, rsu, ↓reduceIte, Option.map_some, Option.map_none, Option.getD_some, Option.getD_none, List.map_cons, List.map_nil, List.cons_append, List.nil_append, List.append_nil, List.getD_cons_zero, List.getD_cons_succ, List.length_cons, List.length_nil, List.getElem?_cons_zero, List.getElem?_cons_succ, List.set_cons_zero, List.set_cons_succ, Nat.reduceEqDiff, Nat.reduceBEq, Nat.reduceAdd, Nat.reduceMul, Nat.reduceSub, Int.reduceToNat, List.length_set, List.length_replicate, List.length_map, eq_self, Nat.reduceLT, Nat.reduceLeDiff, List.flatMap_cons, List.flatMap_nil, List.all_cons, List.all_nil, List.isEmpty_nil, List.isEmpty_cons, Int.reduceAdd, Int.reduceMul, Int.reduceSub, Int.reduceNeg, Int.reduceDiv, Int.reduceMod, forall_const, e3, e4, e5, hk1]
      case inr.inr =>
        simp (maxSteps := 10000000) (disch := first | assumption | omega | (simp only [List.length_map, List.length_set, List.length_replicate, List.length_drop, List.length_take, List.length_append, List.length_cons, List.length_nil, bytes_len, strs_len] <;> omega) | with_reducible exact xor8_lt _ _ | with_reducible exact or8_lt _ _ | with_reducible exact toNat_lt8 _ | with_reducible exact rowP_ok _ _ _ _ _ | with_reducible exact rowOK_nil _ _ | (apply rowOK_put <;> first | assumption | exact rowP_ok _ _ _ _ _ | omega)) only [↓rsd, rsu, ↓reduceIte, Option.map_some, Option.map_none, Option.getD_some, Option.getD_none, List.map_cons, List.map_nil, List.cons_append, List.nil_append, List.append_nil, List.getD_cons_zero, List.getD_cons_succ, List.length_cons, List.length_nil, List.getElem?_cons_zero, List.getElem?_cons_succ, List.set_cons_zero, List.set_cons_succ, Nat.reduceEqDiff, Nat.reduceBEq, Nat.reduceAdd, Nat.reduceMul, Nat.reduceSub, Int.reduceToNat, List.length_set, List.length_replicate, List.length_map, eq_self, Nat.reduceLT, Nat.reduceLeDiff, List.flatMap_cons, List.flatMap_nil, List.all_cons, List.all_nil, List.isEmpty_nil, List.isEmpty_cons, Int.reduceAdd, Int.reduceMul, Int.reduceSub, Int.reduceNeg, Int.reduceDiv, Int.reduceMod, forall_const, e3, e4, e5]
        refine ⟨_, by omega, k - 1, rfl, by omega, ?_, by congr 1; omega⟩
        rw [← hkw]
        obtain ⟨j, rfl⟩ : ∃ j, k = j + 1 := ⟨k - 1, by omega⟩
        conv => rhs; unfold kw
        rw [if_neg (by simpa using hs)]; rfl
      all_goals
        refine go_loop2 8 (fun c s => ∃ (j i : Nat) (O : List UInt8), c = j ∧ j ≤ k ∧ O.length = 1 + k - j ∧ O ++ wT m f j = wInt m f ∧ i < s.N ∧ s.e 3 = .int .u64 (m : Nat) ∧ s.e 4 = .int .u8 (f : Nat) ∧ s.e 6 = .vsl i 0 (1 + k - j) ∧ s.e 7 = .int .i64 (j - 1) ∧ s.o i = .vec 1 (bytesV O)) k ?_ ?_
        · refine ⟨k, 0, [UInt8.ofNat (xor8 ((128 + k) % 256) f)], rfl, Nat.le_refl _, by simp, ?_, Nat.zero_lt_one, ?_⟩
          · unfold wInt; rw [hkk]; rfl
          have hx := xor8_lt ((128 + k) % 256) f
          have h1k : 1 + k - k = 1 := by omega
          simp (maxSteps := 10000000) (disch := first | assumption | omega | (simp only [List.length_map, List.length_set, List.length_replicate, List.length_drop, List.length_take, List.length_append, List.length_cons, List.length_nil, bytes_len, strs_len] <;> omega) | with_reducible exact xor8_lt _ _ | with_reducible exact or8_lt _ _ | with_reducible exact toNat_lt8 _ | with_reducible exact rowP_ok _ _ _ _ _ | with_reducible exact rowOK_nil _ _ | (apply rowOK_put <;> first | assumption | exact rowP_ok _ _ _ _ _ | omega)) only [↓rsd, rsu, ↓reduceIte, Option.map_some, Option.map_none, Option.getD_some, Option.getD_none, List.map_cons, List.map_nil, List.cons_append, List.nil_append, List.append_nil, List.getD_cons_zero, List.getD_cons_succ, List.length_cons, List.length_nil, List.getElem?_cons_zero, List.getElem?_cons_succ, List.set_cons_zero, List.set_cons_succ, Nat.reduceEqDiff, Nat.reduceBEq, Nat.reduceAdd, Nat.reduceMul, Nat.reduceSub, Int.reduceToNat, List.length_set, List.length_replicate, List.length_map, eq_self, Nat.reduceLT, Nat.reduceLeDiff, List.flatMap_cons, List.flatMap_nil, List.all_cons, List.all_nil, List.isEmpty_nil, List.isEmpty_cons, Int.reduceAdd, Int.reduceMul, Int.reduceSub, Int.reduceNeg, Int.reduceDiv, Int.reduceMod, forall_const, e3, e4, e5, h1k]
          rw [bytes_one _ (by omega) (by omega)]; rfl
        · clear e3 e4 e5
          rintro c e o N ⟨j, i, O, hc, hj, hO, hw, hi, e3, e4, e6, e7, oi⟩
          simp only at hi e3 e4 e6 e7 oi
          by_cases hj0 : 0 < j
          · have hx : xor8 (shr64u m (8 * (j - 1)) % 256) f < 256 := xor8_lt _ _
            simp (maxSteps := 10000000) (disch := first | assumption | omega | (simp only [List.length_map, List.length_set, List.length_replicate, List.length_drop, List.length_take, List.length_append, List.length_cons, List.length_nil, bytes_len, strs_len] <;> omega) | with_reducible exact xor8_lt _ _ | with_reducible exact or8_lt _ _ | with_reducible exact toNat_lt8 _ | with_reducible exact rowP_ok _ _ _ _ _ | with_reducible exact rowOK_nil _ _ | (apply rowOK_put <;> first | assumption | exact rowP_ok _ _ _ _ _ | omega)) only [↓rsd, rsu, ↓reduceIte, Option.map_some, Option.map_none, Option.getD_some, Option.getD_none, List.map_cons, List.map_nil, List.cons_append, List.nil_append, List.append_nil, List.getD_cons_zero, List.getD_cons_succ, List.length_cons, List.length_nil, List.getElem?_cons_zero, List.getElem?_cons_succ, List.set_cons_zero, List.set_cons_succ, Nat.reduceEqDiff, Nat.reduceBEq, Nat.reduceAdd, Nat.reduceMul, Nat.reduceSub, Int.reduceToNat, List.length_set, List.length_replicate, List.length_map, eq_self, Nat.reduceLT, Nat.reduceLeDiff, List.flatMap_cons, List.flatMap_nil, List.all_cons, List.all_nil, List.isEmpty_nil, List.isEmpty_cons, Int.reduceAdd, Int.reduceMul, Int.reduceSub, Int.reduceNeg, Int.reduceDiv, Int.reduceMod, forall_const, e3, e4, e6, e7, oi]
            obtain ⟨q, rfl⟩ : ∃ q, j = q + 1 := ⟨j - 1, by omega⟩
            refine ⟨q, by omega, q, N, O ++ [UInt8.ofNat (xor8 (shr64u m (8 * q) % 256) f)], rfl, by omega, ?_, ?_, by omega, ?_, ?_, ?_⟩
            · simp; omega
            · rw [List.append_assoc]; exact hw
            · congr 1; omega
            · congr 1; omega
            · rw [if_pos rfl]; rfl
          · simp (maxSteps := 10000000) (disch := first | assumption | omega | (simp only [List.length_map, List.length_set, List.length_replicate, List.length_drop, List.length_take, List.length_append, List.length_cons, List.length_nil, bytes_len, strs_len] <;> omega) | with_reducible exact xor8_lt _ _ | with_reducible exact or8_lt _ _ | with_reducible exact toNat_lt8 _ | with_reducible exact rowP_ok _ _ _ _ _ | with_reducible exact rowOK_nil _ _ | (apply rowOK_put <;> first | assumption | exact rowP_ok _ _ _ _ _ | omega)) only [↓rsd, rsu, ↓reduceIte, Option.map_some, Option.map_none, Option.getD_some, Option.getD_none, List.map_cons, List.map_nil, List.cons_append, List.nil_append, List.append_nil, List.getD_cons_zero, List.getD_cons_succ, List.length_cons, List.length_nil, List.getElem?_cons_zero, List.getElem?_cons_succ, List.set_cons_zero, List.set_cons_succ, Nat.reduceEqDiff, Nat.reduceBEq, Nat.reduceAdd, Nat.reduceMul, Nat.reduceSub, Int.reduceToNat, List.length_set, List.length_replicate, List.length_map, eq_self, Nat.reduceLT, Nat.reduceLeDiff, List.flatMap_cons, List.flatMap_nil, List.all_cons, List.all_nil, List.isEmpty_nil, List.isEmpty_cons, Int.reduceAdd, Int.reduceMul, Int.reduceSub, Int.reduceNeg, Int.reduceDiv, Int.reduceMod, forall_const, e3, e4, e6, e7, oi]
            have hj00 : j = 0 := by omega
            subst hj00
            rw [← hw, wT, List.append_nil]
theorem wint_ok (hE : EOK G E) (n : Int) (h0 : -9223372036854775808 ≤ n) (h1 : n < 9223372036854775808) : valP (cfW G T E) 64 [.int .i64 n] = some (.ret (.own 1 (bytesV (intB n)))) :=
  wint_go hE n _ _ h0 h1 rfl rfl
/-- The encoding of a string. -/
def strB (s : List UInt8) : List UInt8 := intB s.length ++ s
theorem wbytes_ok (hE : EOK G E) (s : List UInt8) (h : s.length ≤ 10000000000) : valP (cfW G T E) 39 [.str s] = some (.ret (.own 1 (bytesV (strB s)))) := by
  have hl := intB_lt s.length
  refine vrun 2 (m := m39) hE rfl rfl rfl rfl ?_
  simp (maxSteps := 10000000) (disch := first | assumption | omega | (simp only [List.length_map, List.length_set, List.length_replicate, List.length_drop, List.length_take, List.length_append, List.length_cons, List.length_nil, bytes_len, strs_len] <;> omega) | with_reducible exact xor8_lt _ _ | with_reducible exact or8_lt _ _ | with_reducible exact toNat_lt8 _ | with_reducible exact rowP_ok _ _ _ _ _ | with_reducible exact rowOK_nil _ _ | (apply rowOK_put <;> first | assumption | exact rowP_ok _ _ _ _ _ | omega)) only [↓rsd, rsu, ↓reduceIte, Option.map_some, Option.map_none, Option.getD_some, Option.getD_none, List.map_cons, List.map_nil, List.cons_append, List.nil_append, List.append_nil, List.getD_cons_zero, List.getD_cons_succ, List.length_cons, List.length_nil, List.getElem?_cons_zero, List.getElem?_cons_succ, List.set_cons_zero, List.set_cons_succ, Nat.reduceEqDiff, Nat.reduceBEq, Nat.reduceAdd, Nat.reduceMul, Nat.reduceSub, Int.reduceToNat, List.length_set, List.length_replicate, List.length_map, eq_self, Nat.reduceLT, Nat.reduceLeDiff, List.flatMap_cons, List.flatMap_nil, List.all_cons, List.all_nil, List.isEmpty_nil, List.isEmpty_cons, Int.reduceAdd, Int.reduceMul, Int.reduceSub, Int.reduceNeg, Int.reduceDiv, Int.reduceMod, forall_const, m39, wint_ok hE]
  rfl
end Go.Proofs.YtoccgkgdhobmfaaDoor.Am.Ru

set_option maxRecDepth 100000
set_option linter.unusedSimpArgs false
set_option linter.unusedVariables false
namespace Go.Proofs.YtoccgkgdhobmfaaDoor.Am.Ru
open Go
variable {G : Nat → Option (List V)} {E : Nat → Option (CallFn → List V → Hp → Nat → Option Out)}

theorem kw_top (m : Nat) (hm : m < 18446744073709551616) : shr64u m (8 * kw m 8) = 0 := by
  have key : ∀ k, k ≤ 8 → shr64u m (8 * k) = 0 → shr64u m (8 * kw m k) = 0 := by
    intro k
    induction k with
    | zero => intro _ h; exact h
    | succ k ih =>
      intro hk h
      simp only [kw]
      split
      · exact h
      · exact ih (by omega) (by omega)
  refine key 8 (Nat.le_refl _) ?_
  unfold shr64u; rw [Nat.shiftRight_eq_div_pow]; exact Nat.div_eq_of_lt (by simpa using hm)
theorem kw_bot (m : Nat) : ∀ k, kw m k = 0 ∨ 0 < shr64u m (8 * (kw m k - 1)) := by
  intro k
  induction k with
  | zero => exact .inl rfl
  | succ k ih =>
    simp only [kw]
    split
    · rename_i h; exact .inr (by simpa using h)
    · exact ih
theorem shr_mono (m i j : Nat) (h : i ≤ j) : shr64u m j ≤ shr64u m i := by
  unfold shr64u
  rw [Nat.shiftRight_eq_div_pow, Nat.shiftRight_eq_div_pow]
  exact Nat.div_le_div_left (Nat.pow_le_pow_right (by omega) h) (Nat.pos_of_neZero _)
theorem shr_step (m i : Nat) : shr64u m (8 * i) / 256 = shr64u m (8 * (i + 1)) := by
  unfold shr64u
  rw [Nat.shiftRight_eq_div_pow, Nat.shiftRight_eq_div_pow, Nat.div_div_eq_div_mul, Nat.mul_add, Nat.pow_add]
theorem shr_zero (m : Nat) : shr64u m 0 = m := by unfold shr64u; simp
/-- The digits, the lowest first. -/
def dg (m : Nat) : Nat → List UInt8
  | 0 => []
  | i + 1 => dg m i ++ [UInt8.ofNat (shr64u m (8 * i) % 256)]
theorem dg_len (m i : Nat) : (dg m i).length = i := by
  induction i with
  | zero => rfl
  | succ i ih => simp [dg, ih]
theorem dg_get (m : Nat) : ∀ (i j : Nat), j < i → (dg m i).getD j 0 = UInt8.ofNat (shr64u m (8 * j) % 256) := by
  intro i
  induction i with
  | zero => intro j h; omega
  | succ i ih =>
    intro j h
    have hl := dg_len m i
    by_cases hj : j < i
    · rw [← ih j hj]
      simp only [dg, List.getD, List.getElem?_append_left (by omega : j < (dg m i).length)]
    · have : j = i := by omega
      subst this
      simp only [dg, List.getD]
      rw [List.getElem?_append_right (by omega), hl, Nat.sub_self]; rfl
theorem xor8_1 (a f : Nat) (ha : a < 256) (hf : f = 255 ∨ f = 0) : xor8 a f = if f = 255 then 255 - a else a := by
  rcases hf with rfl | rfl
  · rw [xor8_255 a ha]; rfl
  · rw [xor8_0 a ha]; rfl

set_option maxHeartbeats 4000000 in
theorem rint_ok (hE : EOK G E) (n : Int) (h0 : -9223372036854775808 ≤ n) (h1 : n < 9223372036854775808) : valP (cfW G T E) 92 [.int .i64 n] = some (.ret (.own 1 (bytesV (intB n)))) := by
  have hmb : mag n < 9223372036854775808 := by unfold mag; split <;> omega
  have hk8 := kw_le (mag n) 8
  have htop := kw_top (mag n) (by omega)
  have hbot := kw_bot (mag n) 8
  generalize hmm : mag n = m at *
  refine vrun 9 (m := m92) hE rfl rfl rfl rfl ?_
  have hn1 : n < 0 → -1 - n = (m : Int) := by intro h; rw [← hmm]; unfold mag; rw [if_pos h]; omega
  have hn2 : ¬ n < 0 → n = (m : Int) := by intro h; rw [← hmm]; unfold mag; rw [if_neg h]; omega
  have hq : ∀ i, (shr64u m (8 * i) : Int) / 256 = ((shr64u m (8 * (i + 1)) : Nat) : Int) := by intro i; rw [← shr_step]; rfl
  have hb8 : ∀ i, IntKind.u8.wrap ((shr64u m (8 * i) : Int) % 256) = ((shr64u m (8 * i) % 256 : Nat) : Int) := by intro i; rw [IntKind.wrap_u8]; omega
  have hmi : ∀ i, shr64u m (8 * i) ≤ m := by intro i; have := shr_mono m 0 (8 * i) (by omega); rw [shr_zero] at this; exact this
  rcases Decidable.em (n < 0) with hn | hn
  case' inl =>
    have hn1 := hn1 hn
    simp (maxSteps := 10000000) (disch := first | assumption | omega | (simp only [List.length_map, List.length_set, List.length_replicate, List.length_drop, List.length_take, List.length_append, List.length_cons, List.length_nil, bytes_len, strs_len] <;> omega) | with_reducible exact xor8_lt _ _ | with_reducible exact or8_lt _ _ | with_reducible exact toNat_lt8 _ | with_reducible exact rowP_ok _ _ _ _ _ | with_reducible exact rowOK_nil _ _ | (apply rowOK_put <;> first | assumption | exact rowP_ok _ _ _ _ _ | omega)) only [↓rsd, rsu, ↓reduceIte, Option.map_some, Option.map_none, Option.getD_some, Option.getD_none, List.map_cons, List.map_nil, List.cons_append, List.nil_append, List.append_nil, List.getD_cons_zero, List.getD_cons_succ, List.length_cons, List.length_nil, List.getElem?_cons_zero, List.getElem?_cons_succ, List.set_cons_zero, List.set_cons_succ, Nat.reduceEqDiff, Nat.reduceBEq, Nat.reduceAdd, Nat.reduceMul, Nat.reduceSub, Int.reduceToNat, List.length_set, List.length_replicate, List.length_map, eq_self, Nat.reduceLT, Nat.reduceLeDiff, List.flatMap_cons, List.flatMap_nil, List.all_cons, List.all_nil, List.isEmpty_nil, List.isEmpty_cons, Int.reduceAdd, Int.reduceMul, Int.reduceSub, Int.reduceNeg, Int.reduceDiv, Int.reduceMod, forall_const, m92, hn1]
  case' inr =>
    have hn2 := hn2 hn
    have hn1 : n = (m : Int) := hn2
    simp (maxSteps := 10000000) (disch := first | assumption | omega | (simp only [List.length_map, List.length_set, List.length_replicate, List.length_drop, List.length_take, List.length_append, List.length_cons, List.length_nil, bytes_len, strs_len] <;> omega) | with_reducible exact xor8_lt _ _ | with_reducible exact or8_lt _ _ | with_reducible exact toNat_lt8 _ | with_reducible exact rowP_ok _ _ _ _ _ | with_reducible exact rowOK_nil _ _ | (apply rowOK_put <;> first | assumption | exact rowP_ok _ _ _ _ _ | omega)) only [↓rsd, rsu, ↓reduceIte, Option.map_some, Option.map_none, Option.getD_some, Option.getD_none, List.map_cons, List.map_nil, List.cons_append, List.nil_append, List.append_nil, List.getD_cons_zero, List.getD_cons_succ, List.length_cons, List.length_nil, List.getElem?_cons_zero, List.getElem?_cons_succ, List.set_cons_zero, List.set_cons_succ, Nat.reduceEqDiff, Nat.reduceBEq, Nat.reduceAdd, Nat.reduceMul, Nat.reduceSub, Int.reduceToNat, List.length_set, List.length_replicate, List.length_map, eq_self, Nat.reduceLT, Nat.reduceLeDiff, List.flatMap_cons, List.flatMap_nil, List.all_cons, List.all_nil, List.isEmpty_nil, List.isEmpty_cons, Int.reduceAdd, Int.reduceMul, Int.reduceSub, Int.reduceNeg, Int.reduceDiv, Int.reduceMod, forall_const, m92]
  all_goals
    refine go_loop2 9 (fun c s => ∃ i j : Nat, c = kw m 8 - i ∧ i ≤ kw m 8 ∧ (i = 0 ∨ j < s.N) ∧ RowOK s.o 1 j (bytesV (dg m i)) ∧ s.e 0 = .int .i64 n ∧ s.e 3 = .int .i64 (shr64u m (8 * i) : Nat) ∧ s.e 4 = rowV 1 j (bytesV (dg m i))) (kw m 8) ?_ ?_
    · refine ⟨0, 0, rfl, by omega, .inl rfl, .inl rfl, ?_⟩
      simp (maxSteps := 10000000) (disch := first | assumption | omega | (simp only [List.length_map, List.length_set, List.length_replicate, List.length_drop, List.length_take, List.length_append, List.length_cons, List.length_nil, bytes_len, strs_len] <;> omega) | with_reducible exact xor8_lt _ _ | with_reducible exact or8_lt _ _ | with_reducible exact toNat_lt8 _ | with_reducible exact rowP_ok _ _ _ _ _ | with_reducible exact rowOK_nil _ _ | (apply rowOK_put <;> first | assumption | exact rowP_ok _ _ _ _ _ | omega)) only [↓rsd, rsu, ↓reduceIte, Option.map_some, Option.map_none, Option.getD_some, Option.getD_none, List.map_cons, List.map_nil, List.cons_append, List.nil_append, List.append_nil, List.getD_cons_zero, List.getD_cons_succ, List.length_cons, List.length_nil, List.getElem?_cons_zero, List.getElem?_cons_succ, List.set_cons_zero, List.set_cons_succ, Nat.reduceEqDiff, Nat.reduceBEq, Nat.reduceAdd, Nat.reduceMul, Nat.reduceSub, Int.reduceToNat, List.length_set, List.length_replicate, List.length_map, eq_self, Nat.reduceLT, Nat.reduceLeDiff, List.flatMap_cons, List.flatMap_nil, List.all_cons, List.all_nil, List.isEmpty_nil, List.isEmpty_cons, Int.reduceAdd, Int.reduceMul, Int.reduceSub, Int.reduceNeg, Int.reduceDiv, Int.reduceMod, forall_const, shr_zero]
      first | rfl | exact ⟨by rw [hn1], rfl⟩
    · rintro c e o N ⟨i, j, hc, hi, hjN, hj, e0, e3, e4⟩
      simp only at hjN hj e0 e3 e4
      have hl := dg_len m i
      have hqi := hq i
      have hbi := hb8 i
      have hmi1 := hmi i
      by_cases hz : 0 < shr64u m (8 * i)
      · have hlt : i < kw m 8 := by
          have := shr_mono m (8 * kw m 8) (8 * i)
          omega
        simp (maxSteps := 10000000) (disch := first | assumption | omega | (simp only [List.length_map, List.length_set, List.length_replicate, List.length_drop, List.length_take, List.length_append, List.length_cons, List.length_nil, bytes_len, strs_len] <;> omega) | with_reducible exact xor8_lt _ _ | with_reducible exact or8_lt _ _ | with_reducible exact toNat_lt8 _ | with_reducible exact rowP_ok _ _ _ _ _ | with_reducible exact rowOK_nil _ _ | (apply rowOK_put <;> first | assumption | exact rowP_ok _ _ _ _ _ | omega)) only [↓rsd, rsu, ↓reduceIte, Option.map_some, Option.map_none, Option.getD_some, Option.getD_none, List.map_cons, List.map_nil, List.cons_append, List.nil_append, List.append_nil, List.getD_cons_zero, List.getD_cons_succ, List.length_cons, List.length_nil, List.getElem?_cons_zero, List.getElem?_cons_succ, List.set_cons_zero, List.set_cons_succ, Nat.reduceEqDiff, Nat.reduceBEq, Nat.reduceAdd, Nat.reduceMul, Nat.reduceSub, Int.reduceToNat, List.length_set, List.length_replicate, List.length_map, eq_self, Nat.reduceLT, Nat.reduceLeDiff, List.flatMap_cons, List.flatMap_nil, List.all_cons, List.all_nil, List.isEmpty_nil, List.isEmpty_cons, Int.reduceAdd, Int.reduceMul, Int.reduceSub, Int.reduceNeg, Int.reduceDiv, Int.reduceMod, forall_const, e0, e3, e4, hbi, hqi]
        refine ⟨_, by omega, i + 1, N, rfl, by omega, .inr (by omega), ?_, rfl, ?_⟩
        · have hrow := rowP_ok (o := o) 1 j N (bytesV (dg m i)) [[.int .u8 ((shr64u m (8 * i) % 256 : Nat) : Int)]]
          rwa [bytes_snocN _ _ (by omega)] at hrow
        · rfl
      · have hik : i = kw m 8 := by
          rcases hbot with h | h
          · omega
          · have := shr_mono m (8 * i) (8 * (kw m 8 - 1))
            omega
        subst hik
        have hge : (0 ≤ n) = ¬ (n < 0) := by simp
        have hw1 : IntKind.u8.wrap (128 + (kw m 8 : Int)) = (((128 + kw m 8) % 256 : Nat) : Int) := by rw [IntKind.wrap_u8]; omega
        have hw2 : IntKind.u8.wrap (127 - (kw m 8 : Int)) = ((127 - kw m 8 : Nat) : Int) := by rw [IntKind.wrap_u8]; omega
        simp (maxSteps := 10000000) (disch := first | assumption | omega | (simp only [List.length_map, List.length_set, List.length_replicate, List.length_drop, List.length_take, List.length_append, List.length_cons, List.length_nil, bytes_len, strs_len] <;> omega) | with_reducible exact xor8_lt _ _ | with_reducible exact or8_lt _ _ | with_reducible exact toNat_lt8 _ | with_reducible exact rowP_ok _ _ _ _ _ | with_reducible exact rowOK_nil _ _ | (apply rowOK_put <;> first | assumption | exact rowP_ok _ _ _ _ _ | omega)) only [↓rsd, rsu, ↓reduceIte, Option.map_some, Option.map_none, Option.getD_some, Option.getD_none, List.map_cons, List.map_nil, List.cons_append, List.nil_append, List.append_nil, List.getD_cons_zero, List.getD_cons_succ, List.length_cons, List.length_nil, List.getElem?_cons_zero, List.getElem?_cons_succ, List.set_cons_zero, List.set_cons_succ, Nat.reduceEqDiff, Nat.reduceBEq, Nat.reduceAdd, Nat.reduceMul, Nat.reduceSub, Int.reduceToNat, List.length_set, List.length_replicate, List.length_map, eq_self, Nat.reduceLT, Nat.reduceLeDiff, List.flatMap_cons, List.flatMap_nil, List.all_cons, List.all_nil, List.isEmpty_nil, List.isEmpty_cons, Int.reduceAdd, Int.reduceMul, Int.reduceSub, Int.reduceNeg, Int.reduceDiv, Int.reduceMod, forall_const, e0, e3, e4, hl, hw1, hw2]
        have hf : ∃ f, f = flip n ∧ (f = 255 ∨ f = 0) ∧ ((n < 0 ∧ f = 255) ∨ (¬ n < 0 ∧ f = 0)) := by
          refine ⟨flip n, rfl, ?_, ?_⟩ <;> unfold flip <;> split <;> simp_all
        obtain ⟨f, hfl, hf, hnf⟩ := hf
        have hres : intB n = wInt m f := by unfold intB; rw [hmm, ← hfl]
        rw [hres]
        refine go_loop2 9 (fun c s => ∃ (q i : Nat) (O : List UInt8), c = q ∧ q ≤ kw m 8 ∧ O.length = 1 + kw m 8 - q ∧ O ++ wT m f q = wInt m f ∧ (kw m 8 = 0 ∨ j < i) ∧ i < s.N ∧ RowOK s.o 1 j (bytesV (dg m (kw m 8))) ∧
          s.e 0 = .int .i64 n ∧ s.e 4 = rowV 1 j (bytesV (dg m (kw m 8))) ∧ s.e 6 = .vsl i 0 (1 + kw m 8 - q) ∧ s.e 7 = .int .i64 (q - 1) ∧ s.o i = .vec 1 (bytesV O)) (kw m 8) ?_ ?_
        · have hx := xor8_lt ((128 + kw m 8) % 256) f
          have hv : xor8 ((128 + kw m 8) % 256) f = (if f = 255 then 127 - kw m 8 else (128 + kw m 8) % 256) := by
            rw [xor8_1 _ _ (by omega) hf]; split <;> omega
          have hwi : UInt8.ofNat (xor8 ((128 + kw m 8) % 256) f) :: wT m f (kw m 8) = wInt m f := rfl
          generalize xor8 ((128 + kw m 8) % 256) f = hd at *
          have hp : RowOK (hput o N (.vec 1 (bytesV [UInt8.ofNat hd]))) 1 j (bytesV (dg m (kw m 8))) := by
            rcases hjN with h | h
            · left; rw [h]; rfl
            · exact rowOK_put hj (by omega)
          have h1k : 1 + kw m 8 - kw m 8 = 1 := by omega
          have hhead : ([[V.int .u8 (hd : Int)]] : List (List V)) = bytesV [UInt8.ofNat hd] := bytes_snocN [] _ hx
          rcases hnf with ⟨hnn, hff⟩ | ⟨hnn, hff⟩
          all_goals
            first
            | exact absurd hnn hn
            | exact absurd hn hnn
            | simp only [hff, if_true, if_false, Nat.reduceEqDiff] at hv
              rw [← hv, hhead]
              refine ⟨kw m 8, N, [UInt8.ofNat hd], rfl, Nat.le_refl _, by simp, hwi, by omega, Nat.lt_succ_self _, hp, ?_⟩
              simp (maxSteps := 10000000) (disch := first | assumption | omega | (simp only [List.length_map, List.length_set, List.length_replicate, List.length_drop, List.length_take, List.length_append, List.length_cons, List.length_nil, bytes_len, strs_len] <;> omega) | with_reducible exact xor8_lt _ _ | with_reducible exact or8_lt _ _ | with_reducible exact toNat_lt8 _ | with_reducible exact rowP_ok _ _ _ _ _ | with_reducible exact rowOK_nil _ _ | (apply rowOK_put <;> first | assumption | exact rowP_ok _ _ _ _ _ | omega)) only [↓rsd, rsu, ↓reduceIte, Option.map_some, Option.map_none, Option.getD_some, Option.getD_none, List.map_cons, List.map_nil, List.cons_append, List.nil_append, List.append_nil, List.getD_cons_zero, List.getD_cons_succ, List.length_cons, List.length_nil, List.getElem?_cons_zero, List.getElem?_cons_succ, List.set_cons_zero, List.set_cons_succ, Nat.reduceEqDiff, Nat.reduceBEq, Nat.reduceAdd, Nat.reduceMul, Nat.reduceSub, Int.reduceToNat, List.length_set, List.length_replicate, List.length_map, eq_self, Nat.reduceLT, Nat.reduceLeDiff, List.flatMap_cons, List.flatMap_nil, List.all_cons, List.all_nil, List.isEmpty_nil, List.isEmpty_cons, Int.reduceAdd, Int.reduceMul, Int.reduceSub, Int.reduceNeg, Int.reduceDiv, Int.reduceMod, forall_const, e0, e4, h1k]
        · rintro c e' o' N' ⟨q, i, O, hc, hq, hO, hw, hji, hi, hrow, e0, e4, e6, e7, oi⟩
          simp only at hi hrow e0 e4 e6 e7 oi
          by_cases hq0 : 0 < q
          · obtain ⟨p, rfl⟩ : ∃ p, q = p + 1 := ⟨q - 1, by omega⟩
            have hdl : (dg m (kw m 8)).getD p 0 = UInt8.ofNat (shr64u m (8 * p) % 256) := dg_get m _ _ (by omega)
            have hdt : (UInt8.ofNat (shr64u m (8 * p) % 256)).toNat = shr64u m (8 * p) % 256 := toNat_ofNat8 _ (by omega)
            have hne : bytesV (dg m (kw m 8)) ≠ [] := by intro h; have := congrArg List.length h; rw [bytes_len, dg_len] at this; simp at this; omega
            have hoj := rowOK_get hrow hne
            have hge := (hrow : RowOK o' 1 j (bytesV (dg m (kw m 8))))
            have hgt : (bytesV (dg m (kw m 8)))[p]? = some [.int .u8 ((shr64u m (8 * p) % 256 : Nat) : Int)] := by
              rw [bytes_get _ _ (by rw [dg_len]; omega), hdl, hdt]
            have hxv := xor8_1 (shr64u m (8 * p) % 256) f (by omega) hf
            have hp1 : ((p + 1 : Nat) : Int) - 1 = (p : Int) := by omega
            rw [hp1] at e7
            rcases hnf with ⟨hnn, hff⟩ | ⟨hnn, hff⟩
            all_goals
              first
              | exact absurd hnn hn
              | exact absurd hn hnn
              | (first | rw [if_pos hff] at hxv | rw [if_neg (by omega)] at hxv)
                simp (maxSteps := 10000000) (disch := first | assumption | omega | (simp only [List.length_map, List.length_set, List.length_replicate, List.length_drop, List.length_take, List.length_append, List.length_cons, List.length_nil, bytes_len, strs_len] <;> omega) | with_reducible exact xor8_lt _ _ | with_reducible exact or8_lt _ _ | with_reducible exact toNat_lt8 _ | with_reducible exact rowP_ok _ _ _ _ _ | with_reducible exact rowOK_nil _ _ | (apply rowOK_put <;> first | assumption | exact rowP_ok _ _ _ _ _ | omega)) only [↓rsd, rsu, ↓reduceIte, Option.map_some, Option.map_none, Option.getD_some, Option.getD_none, List.map_cons, List.map_nil, List.cons_append, List.nil_append, List.append_nil, List.getD_cons_zero, List.getD_cons_succ, List.length_cons, List.length_nil, List.getElem?_cons_zero, List.getElem?_cons_succ, List.set_cons_zero, List.set_cons_succ, Nat.reduceEqDiff, Nat.reduceBEq, Nat.reduceAdd, Nat.reduceMul, Nat.reduceSub, Int.reduceToNat, List.length_set, List.length_replicate, List.length_map, eq_self, Nat.reduceLT, Nat.reduceLeDiff, List.flatMap_cons, List.flatMap_nil, List.all_cons, List.all_nil, List.isEmpty_nil, List.isEmpty_cons, Int.reduceAdd, Int.reduceMul, Int.reduceSub, Int.reduceNeg, Int.reduceDiv, Int.reduceMod, forall_const, e0, e4, e6, e7, oi, hl, hoj, hgt, b_sub8]
                refine ⟨_, by omega, p, N', O ++ [UInt8.ofNat (xor8 (shr64u m (8 * p) % 256) f)], rfl, by omega, ?_, ?_, .inr (by omega), by omega, ?_, ?_, rfl, ?_⟩
                · simp; omega
                · rw [List.append_assoc]; exact hw
                · exact rowOK_put (rowOK_put hrow (by omega)) (by omega)
                · congr 1; omega
                · rw [if_pos rfl, hxv]
          · have hq00 : q = 0 := by omega
            subst hq00
            simp (maxSteps := 10000000) (disch := first | assumption | omega | (simp only [List.length_map, List.length_set, List.length_replicate, List.length_drop, List.length_take, List.length_append, List.length_cons, List.length_nil, bytes_len, strs_len] <;> omega) | with_reducible exact xor8_lt _ _ | with_reducible exact or8_lt _ _ | with_reducible exact toNat_lt8 _ | with_reducible exact rowP_ok _ _ _ _ _ | with_reducible exact rowOK_nil _ _ | (apply rowOK_put <;> first | assumption | exact rowP_ok _ _ _ _ _ | omega)) only [↓rsd, rsu, ↓reduceIte, Option.map_some, Option.map_none, Option.getD_some, Option.getD_none, List.map_cons, List.map_nil, List.cons_append, List.nil_append, List.append_nil, List.getD_cons_zero, List.getD_cons_succ, List.length_cons, List.length_nil, List.getElem?_cons_zero, List.getElem?_cons_succ, List.set_cons_zero, List.set_cons_succ, Nat.reduceEqDiff, Nat.reduceBEq, Nat.reduceAdd, Nat.reduceMul, Nat.reduceSub, Int.reduceToNat, List.length_set, List.length_replicate, List.length_map, eq_self, Nat.reduceLT, Nat.reduceLeDiff, List.flatMap_cons, List.flatMap_nil, List.all_cons, List.all_nil, List.isEmpty_nil, List.isEmpty_cons, Int.reduceAdd, Int.reduceMul, Int.reduceSub, Int.reduceNeg, Int.reduceDiv, Int.reduceMod, forall_const, e0, e4, e6, e7, oi]
            rw [← hw, wT, List.append_nil]
theorem rbytes_ok (hE : EOK G E) (s : List UInt8) (h : s.length ≤ 10000000000) : valP (cfW G T E) 54 [.str s] = some (.ret (.own 1 (bytesV (strB s)))) := by
  have hl := intB_lt s.length
  refine vrun 2 (m := m54) hE rfl rfl rfl rfl ?_
  simp (maxSteps := 10000000) (disch := first | assumption | omega | (simp only [List.length_map, List.length_set, List.length_replicate, List.length_drop, List.length_take, List.length_append, List.length_cons, List.length_nil, bytes_len, strs_len] <;> omega) | with_reducible exact xor8_lt _ _ | with_reducible exact or8_lt _ _ | with_reducible exact toNat_lt8 _ | with_reducible exact rowP_ok _ _ _ _ _ | with_reducible exact rowOK_nil _ _ | (apply rowOK_put <;> first | assumption | exact rowP_ok _ _ _ _ _ | omega)) only [↓rsd, rsu, ↓reduceIte, Option.map_some, Option.map_none, Option.getD_some, Option.getD_none, List.map_cons, List.map_nil, List.cons_append, List.nil_append, List.append_nil, List.getD_cons_zero, List.getD_cons_succ, List.length_cons, List.length_nil, List.getElem?_cons_zero, List.getElem?_cons_succ, List.set_cons_zero, List.set_cons_succ, Nat.reduceEqDiff, Nat.reduceBEq, Nat.reduceAdd, Nat.reduceMul, Nat.reduceSub, Int.reduceToNat, List.length_set, List.length_replicate, List.length_map, eq_self, Nat.reduceLT, Nat.reduceLeDiff, List.flatMap_cons, List.flatMap_nil, List.all_cons, List.all_nil, List.isEmpty_nil, List.isEmpty_cons, Int.reduceAdd, Int.reduceMul, Int.reduceSub, Int.reduceNeg, Int.reduceDiv, Int.reduceMod, forall_const, m54, rint_ok hE]
  rfl
end Go.Proofs.YtoccgkgdhobmfaaDoor.Am.Ru

set_option maxRecDepth 100000
set_option linter.unusedSimpArgs false
set_option linter.unusedVariables false
namespace Go.Proofs.YtoccgkgdhobmfaaDoor.Am.Ru
open Go
variable {G : Nat → Option (List V)} {E : Nat → Option (CallFn → List V → Hp → Nat → Option Out)}

theorem take_succ_getD (ws : List UInt8) (i : Nat) (h : i < ws.length) : ws.take (i + 1) = ws.take i ++ [ws.getD i 0] := by
  rw [List.take_add_one, List.getElem?_eq_getElem h]; simp [List.getD, h]
theorem bytes32_ok (hE : EOK G E) (ws : List UInt8) (hl : ws.length = 32) : valP (cfW G T E) 24 [.agg (ws.map b8)] = some (.ret (.str ws)) := by
  refine vrun 5 (m := m24) hE rfl rfl rfl rfl ?_
  simp (maxSteps := 10000000) (disch := first | assumption | omega | (simp only [List.length_map, List.length_set, List.length_replicate, List.length_drop, List.length_take, List.length_append, List.length_cons, List.length_nil, bytes_len, strs_len] <;> omega) | with_reducible exact xor8_lt _ _ | with_reducible exact or8_lt _ _ | with_reducible exact toNat_lt8 _ | with_reducible exact rowP_ok _ _ _ _ _ | with_reducible exact rowOK_nil _ _ | (apply rowOK_put <;> first | assumption | exact rowP_ok _ _ _ _ _ | omega)) only [↓rsd, rsu, ↓reduceIte, Option.map_some, Option.map_none, Option.getD_some, Option.getD_none, List.map_cons, List.map_nil, List.cons_append, List.nil_append, List.append_nil, List.getD_cons_zero, List.getD_cons_succ, List.length_cons, List.length_nil, List.getElem?_cons_zero, List.getElem?_cons_succ, List.set_cons_zero, List.set_cons_succ, Nat.reduceEqDiff, Nat.reduceBEq, Nat.reduceAdd, Nat.reduceMul, Nat.reduceSub, Int.reduceToNat, List.length_set, List.length_replicate, List.length_map, eq_self, Nat.reduceLT, Nat.reduceLeDiff, List.flatMap_cons, List.flatMap_nil, List.all_cons, List.all_nil, List.isEmpty_nil, List.isEmpty_cons, Int.reduceAdd, Int.reduceMul, Int.reduceSub, Int.reduceNeg, Int.reduceDiv, Int.reduceMod, forall_const, m24]
  refine go_loop2 5 (fun c s => ∃ i j : Nat, c = 32 - i ∧ i ≤ 32 ∧ 0 < j ∧ 0 < s.N ∧ RowOK s.o 1 j (bytesV (ws.take i)) ∧ s.e 1 = .ptr 0 0 ∧ s.e 3 = rowV 1 j (bytesV (ws.take i)) ∧ s.e 4 = .int .i64 i ∧ s.o 0 = .box (ws.map b8)) 32 ?_ ?_
  · refine ⟨0, 1, rfl, by omega, by omega, Nat.lt_succ_self _, .inl rfl, ?_⟩
    simp (maxSteps := 10000000) (disch := first | assumption | omega | (simp only [List.length_map, List.length_set, List.length_replicate, List.length_drop, List.length_take, List.length_append, List.length_cons, List.length_nil, bytes_len, strs_len] <;> omega) | with_reducible exact xor8_lt _ _ | with_reducible exact or8_lt _ _ | with_reducible exact toNat_lt8 _ | with_reducible exact rowP_ok _ _ _ _ _ | with_reducible exact rowOK_nil _ _ | (apply rowOK_put <;> first | assumption | exact rowP_ok _ _ _ _ _ | omega)) only [↓rsd, rsu, ↓reduceIte, Option.map_some, Option.map_none, Option.getD_some, Option.getD_none, List.map_cons, List.map_nil, List.cons_append, List.nil_append, List.append_nil, List.getD_cons_zero, List.getD_cons_succ, List.length_cons, List.length_nil, List.getElem?_cons_zero, List.getElem?_cons_succ, List.set_cons_zero, List.set_cons_succ, Nat.reduceEqDiff, Nat.reduceBEq, Nat.reduceAdd, Nat.reduceMul, Nat.reduceSub, Int.reduceToNat, List.length_set, List.length_replicate, List.length_map, eq_self, Nat.reduceLT, Nat.reduceLeDiff, List.flatMap_cons, List.flatMap_nil, List.all_cons, List.all_nil, List.isEmpty_nil, List.isEmpty_cons, Int.reduceAdd, Int.reduceMul, Int.reduceSub, Int.reduceNeg, Int.reduceDiv, Int.reduceMod, forall_const]
    exact ⟨rfl, rfl⟩
  · rintro c e o N ⟨i, j, hc, hi, hj, hN, hrow, e1, e3, e4, o0⟩
    simp only at hN hrow e1 e3 e4 o0
    by_cases hlt : i < 32
    · simp (maxSteps := 10000000) (disch := first | assumption | omega | (simp only [List.length_map, List.length_set, List.length_replicate, List.length_drop, List.length_take, List.length_append, List.length_cons, List.length_nil, bytes_len, strs_len] <;> omega) | with_reducible exact xor8_lt _ _ | with_reducible exact or8_lt _ _ | with_reducible exact toNat_lt8 _ | with_reducible exact rowP_ok _ _ _ _ _ | with_reducible exact rowOK_nil _ _ | (apply rowOK_put <;> first | assumption | exact rowP_ok _ _ _ _ _ | omega)) only [↓rsd, rsu, ↓reduceIte, Option.map_some, Option.map_none, Option.getD_some, Option.getD_none, List.map_cons, List.map_nil, List.cons_append, List.nil_append, List.append_nil, List.getD_cons_zero, List.getD_cons_succ, List.length_cons, List.length_nil, List.getElem?_cons_zero, List.getElem?_cons_succ, List.set_cons_zero, List.set_cons_succ, Nat.reduceEqDiff, Nat.reduceBEq, Nat.reduceAdd, Nat.reduceMul, Nat.reduceSub, Int.reduceToNat, List.length_set, List.length_replicate, List.length_map, eq_self, Nat.reduceLT, Nat.reduceLeDiff, List.flatMap_cons, List.flatMap_nil, List.all_cons, List.all_nil, List.isEmpty_nil, List.isEmpty_cons, Int.reduceAdd, Int.reduceMul, Int.reduceSub, Int.reduceNeg, Int.reduceDiv, Int.reduceMod, forall_const, e1, e3, e4, o0]
      refine ⟨_, by omega, i + 1, N, rfl, by omega, by omega, by omega, ?_, ?_, rfl⟩
      · have hr := rowP_ok (o := o) 1 j N (bytesV (ws.take i)) [[.int .u8 ((ws.getD i 0).toNat : Int)]]
        rw [bytes_snocN _ _ (toNat_lt8 _), ofNat_toNat8, ← take_succ_getD _ _ (by omega)] at hr
        exact hr
      · rw [take_succ_getD _ _ (by omega)]
    · have hi32 : i = 32 := by omega
      subst hi32
      rw [show ws.take 32 = ws from by rw [← hl, List.take_length]] at *
      simp (maxSteps := 10000000) (disch := first | assumption | omega | (simp only [List.length_map, List.length_set, List.length_replicate, List.length_drop, List.length_take, List.length_append, List.length_cons, List.length_nil, bytes_len, strs_len] <;> omega) | with_reducible exact xor8_lt _ _ | with_reducible exact or8_lt _ _ | with_reducible exact toNat_lt8 _ | with_reducible exact rowP_ok _ _ _ _ _ | with_reducible exact rowOK_nil _ _ | (apply rowOK_put <;> first | assumption | exact rowP_ok _ _ _ _ _ | omega)) only [↓rsd, rsu, ↓reduceIte, Option.map_some, Option.map_none, Option.getD_some, Option.getD_none, List.map_cons, List.map_nil, List.cons_append, List.nil_append, List.append_nil, List.getD_cons_zero, List.getD_cons_succ, List.length_cons, List.length_nil, List.getElem?_cons_zero, List.getElem?_cons_succ, List.set_cons_zero, List.set_cons_succ, Nat.reduceEqDiff, Nat.reduceBEq, Nat.reduceAdd, Nat.reduceMul, Nat.reduceSub, Int.reduceToNat, List.length_set, List.length_replicate, List.length_map, eq_self, Nat.reduceLT, Nat.reduceLeDiff, List.flatMap_cons, List.flatMap_nil, List.all_cons, List.all_nil, List.isEmpty_nil, List.isEmpty_cons, Int.reduceAdd, Int.reduceMul, Int.reduceSub, Int.reduceNeg, Int.reduceDiv, Int.reduceMod, forall_const, e1, e3, e4, o0]
theorem text_ok (hE : EOK G E) (ws : List UInt8) (hl : ws.length = 16) : valP (cfW G T E) 46 [.agg (ws.map b8)] = some (.ret (.str ws)) := by
  refine vrun 5 (m := m46) hE rfl rfl rfl rfl ?_
  simp (maxSteps := 10000000) (disch := first | assumption | omega | (simp only [List.length_map, List.length_set, List.length_replicate, List.length_drop, List.length_take, List.length_append, List.length_cons, List.length_nil, bytes_len, strs_len] <;> omega) | with_reducible exact xor8_lt _ _ | with_reducible exact or8_lt _ _ | with_reducible exact toNat_lt8 _ | with_reducible exact rowP_ok _ _ _ _ _ | with_reducible exact rowOK_nil _ _ | (apply rowOK_put <;> first | assumption | exact rowP_ok _ _ _ _ _ | omega)) only [↓rsd, rsu, ↓reduceIte, Option.map_some, Option.map_none, Option.getD_some, Option.getD_none, List.map_cons, List.map_nil, List.cons_append, List.nil_append, List.append_nil, List.getD_cons_zero, List.getD_cons_succ, List.length_cons, List.length_nil, List.getElem?_cons_zero, List.getElem?_cons_succ, List.set_cons_zero, List.set_cons_succ, Nat.reduceEqDiff, Nat.reduceBEq, Nat.reduceAdd, Nat.reduceMul, Nat.reduceSub, Int.reduceToNat, List.length_set, List.length_replicate, List.length_map, eq_self, Nat.reduceLT, Nat.reduceLeDiff, List.flatMap_cons, List.flatMap_nil, List.all_cons, List.all_nil, List.isEmpty_nil, List.isEmpty_cons, Int.reduceAdd, Int.reduceMul, Int.reduceSub, Int.reduceNeg, Int.reduceDiv, Int.reduceMod, forall_const, m46]
  refine go_loop2 5 (fun c s => ∃ i j : Nat, c = 16 - i ∧ i ≤ 16 ∧ 0 < j ∧ 0 < s.N ∧ RowOK s.o 1 j (bytesV (ws.take i)) ∧ s.e 1 = .ptr 0 0 ∧ s.e 3 = rowV 1 j (bytesV (ws.take i)) ∧ s.e 4 = .int .i64 i ∧ s.o 0 = .box (ws.map b8)) 16 ?_ ?_
  · refine ⟨0, 1, rfl, by omega, by omega, Nat.lt_succ_self _, .inl rfl, ?_⟩
    simp (maxSteps := 10000000) (disch := first | assumption | omega | (simp only [List.length_map, List.length_set, List.length_replicate, List.length_drop, List.length_take, List.length_append, List.length_cons, List.length_nil, bytes_len, strs_len] <;> omega) | with_reducible exact xor8_lt _ _ | with_reducible exact or8_lt _ _ | with_reducible exact toNat_lt8 _ | with_reducible exact rowP_ok _ _ _ _ _ | with_reducible exact rowOK_nil _ _ | (apply rowOK_put <;> first | assumption | exact rowP_ok _ _ _ _ _ | omega)) only [↓rsd, rsu, ↓reduceIte, Option.map_some, Option.map_none, Option.getD_some, Option.getD_none, List.map_cons, List.map_nil, List.cons_append, List.nil_append, List.append_nil, List.getD_cons_zero, List.getD_cons_succ, List.length_cons, List.length_nil, List.getElem?_cons_zero, List.getElem?_cons_succ, List.set_cons_zero, List.set_cons_succ, Nat.reduceEqDiff, Nat.reduceBEq, Nat.reduceAdd, Nat.reduceMul, Nat.reduceSub, Int.reduceToNat, List.length_set, List.length_replicate, List.length_map, eq_self, Nat.reduceLT, Nat.reduceLeDiff, List.flatMap_cons, List.flatMap_nil, List.all_cons, List.all_nil, List.isEmpty_nil, List.isEmpty_cons, Int.reduceAdd, Int.reduceMul, Int.reduceSub, Int.reduceNeg, Int.reduceDiv, Int.reduceMod, forall_const]
    exact ⟨rfl, rfl⟩
  · rintro c e o N ⟨i, j, hc, hi, hj, hN, hrow, e1, e3, e4, o0⟩
    simp only at hN hrow e1 e3 e4 o0
    by_cases hlt : i < 16
    · simp (maxSteps := 10000000) (disch := first | assumption | omega | (simp only [List.length_map, List.length_set, List.length_replicate, List.length_drop, List.length_take, List.length_append, List.length_cons, List.length_nil, bytes_len, strs_len] <;> omega) | with_reducible exact xor8_lt _ _ | with_reducible exact or8_lt _ _ | with_reducible exact toNat_lt8 _ | with_reducible exact rowP_ok _ _ _ _ _ | with_reducible exact rowOK_nil _ _ | (apply rowOK_put <;> first | assumption | exact rowP_ok _ _ _ _ _ | omega)) only [↓rsd, rsu, ↓reduceIte, Option.map_some, Option.map_none, Option.getD_some, Option.getD_none, List.map_cons, List.map_nil, List.cons_append, List.nil_append, List.append_nil, List.getD_cons_zero, List.getD_cons_succ, List.length_cons, List.length_nil, List.getElem?_cons_zero, List.getElem?_cons_succ, List.set_cons_zero, List.set_cons_succ, Nat.reduceEqDiff, Nat.reduceBEq, Nat.reduceAdd, Nat.reduceMul, Nat.reduceSub, Int.reduceToNat, List.length_set, List.length_replicate, List.length_map, eq_self, Nat.reduceLT, Nat.reduceLeDiff, List.flatMap_cons, List.flatMap_nil, List.all_cons, List.all_nil, List.isEmpty_nil, List.isEmpty_cons, Int.reduceAdd, Int.reduceMul, Int.reduceSub, Int.reduceNeg, Int.reduceDiv, Int.reduceMod, forall_const, e1, e3, e4, o0]
      refine ⟨_, by omega, i + 1, N, rfl, by omega, by omega, by omega, ?_, ?_, rfl⟩
      · have hr := rowP_ok (o := o) 1 j N (bytesV (ws.take i)) [[.int .u8 ((ws.getD i 0).toNat : Int)]]
        rw [bytes_snocN _ _ (toNat_lt8 _), ofNat_toNat8, ← take_succ_getD _ _ (by omega)] at hr
        exact hr
      · rw [take_succ_getD _ _ (by omega)]
    · have hi16 : i = 16 := by omega
      subst hi16
      rw [show ws.take 16 = ws from by rw [← hl, List.take_length]] at *
      simp (maxSteps := 10000000) (disch := first | assumption | omega | (simp only [List.length_map, List.length_set, List.length_replicate, List.length_drop, List.length_take, List.length_append, List.length_cons, List.length_nil, bytes_len, strs_len] <;> omega) | with_reducible exact xor8_lt _ _ | with_reducible exact or8_lt _ _ | with_reducible exact toNat_lt8 _ | with_reducible exact rowP_ok _ _ _ _ _ | with_reducible exact rowOK_nil _ _ | (apply rowOK_put <;> first | assumption | exact rowP_ok _ _ _ _ _ | omega)) only [↓rsd, rsu, ↓reduceIte, Option.map_some, Option.map_none, Option.getD_some, Option.getD_none, List.map_cons, List.map_nil, List.cons_append, List.nil_append, List.append_nil, List.getD_cons_zero, List.getD_cons_succ, List.length_cons, List.length_nil, List.getElem?_cons_zero, List.getElem?_cons_succ, List.set_cons_zero, List.set_cons_succ, Nat.reduceEqDiff, Nat.reduceBEq, Nat.reduceAdd, Nat.reduceMul, Nat.reduceSub, Int.reduceToNat, List.length_set, List.length_replicate, List.length_map, eq_self, Nat.reduceLT, Nat.reduceLeDiff, List.flatMap_cons, List.flatMap_nil, List.all_cons, List.all_nil, List.isEmpty_nil, List.isEmpty_cons, Int.reduceAdd, Int.reduceMul, Int.reduceSub, Int.reduceNeg, Int.reduceDiv, Int.reduceMod, forall_const, e1, e3, e4, o0]
theorem outB_len' (S : List Nat) : (outB S 32).length = 32 := outB_len S 32
/-- The hash value, by package hash. -/
def shaH (b : List UInt8) : List UInt8 := endF (addF IV (List.replicate 64 0) 0 b).1 (addF IV (List.replicate 64 0) 0 b).2.1 (addF IV (List.replicate 64 0) 0 b).2.2
theorem addN_n : ∀ (f : Nat) (S : List Nat) (B : List UInt8) (n : Nat) (t : List UInt8), t.length ≤ f → n + t.length < 18446744073709551616 → (addN f S B n t).2.2 = n + t.length := by
  intro f
  induction f with
  | zero =>
    intro S B n t hf hn
    have : t = [] := List.length_eq_zero_iff.1 (by omega)
    subst this; rfl
  | succ f ih =>
    intro S B n t hf hn
    simp only [addN]
    split
    · rename_i h; subst h; rfl
    · rename_i h
      have hl : 0 < t.length := List.length_pos_iff.2 h
      have ha : add64u n (min t.length (64 - n % 64) % 18446744073709551616) = n + min t.length (64 - n % 64) := by unfold add64u; omega
      have hd : (t.drop (min t.length (64 - n % 64))).length = t.length - min t.length (64 - n % 64) := by simp
      rw [ha]
      split
      · rw [ih _ _ _ _ (by omega) (by omega), hd]; omega
      · rw [ih _ _ _ _ (by omega) (by omega), hd]; omega
theorem addF_n (S : List Nat) (B : List UInt8) (n : Nat) (t : List UInt8) (h : n + t.length < 18446744073709551616) : (addF S B n t).2.2 = n + t.length := addN_n _ _ _ _ _ (Nat.le_refl _) h
theorem IV_len : IV.length = 8 := rfl
theorem B0_len : (List.replicate 64 (0 : UInt8)).length = 64 := by simp
theorem sum_ok (hE : EOK G E) (b : List UInt8) (hb : b.length ≤ 1000000) : valP (cfW G T E) 15 [.sl 1 (bytesV b)] = some (.ret (.agg ((shaH b).map b8))) := by
  have ha := addF_len 0 b IV_len B0_len
  have hn := addF_n IV (List.replicate 64 0) 0 b (by omega)
  have ho : (shaH b).length = 32 := outB_len _ _
  have hol : (endF (addF IV (List.replicate 64 0) 0 b).1 (addF IV (List.replicate 64 0) 0 b).2.1 (addF IV (List.replicate 64 0) 0 b).2.2).length = 32 := outB_len _ _
  have ha1 := ha.1
  have ha2 := ha.2
  have hIV := IV_len
  have hB0 := B0_len
  refine vrun 2 (m := m15) hE rfl rfl rfl rfl ?_
  simp (maxSteps := 10000000) (disch := first | assumption | omega | (simp only [List.length_map, List.length_set, List.length_replicate, List.length_drop, List.length_take, List.length_append, List.length_cons, List.length_nil, bytes_len, strs_len] <;> omega) | with_reducible exact xor8_lt _ _ | with_reducible exact or8_lt _ _ | with_reducible exact toNat_lt8 _ | with_reducible exact rowP_ok _ _ _ _ _ | with_reducible exact rowOK_nil _ _ | (apply rowOK_put <;> first | assumption | exact rowP_ok _ _ _ _ _ | omega)) only [↓rsd, rsu, ↓reduceIte, Option.map_some, Option.map_none, Option.getD_some, Option.getD_none, List.map_cons, List.map_nil, List.cons_append, List.nil_append, List.append_nil, List.getD_cons_zero, List.getD_cons_succ, List.length_cons, List.length_nil, List.getElem?_cons_zero, List.getElem?_cons_succ, List.set_cons_zero, List.set_cons_succ, Nat.reduceEqDiff, Nat.reduceBEq, Nat.reduceAdd, Nat.reduceMul, Nat.reduceSub, Int.reduceToNat, List.length_set, List.length_replicate, List.length_map, eq_self, Nat.reduceLT, Nat.reduceLeDiff, List.flatMap_cons, List.flatMap_nil, List.all_cons, List.all_nil, List.isEmpty_nil, List.isEmpty_cons, Int.reduceAdd, Int.reduceMul, Int.reduceSub, Int.reduceNeg, Int.reduceDiv, Int.reduceMod, forall_const, m15, begin_ok hE, sc_strm, fr_strm, fm_strm, add_ok hE, ssum_ok hE]
  rfl

/-! ### Streams as one value -/
abbrev Strm := List Nat × List UInt8 × Nat
def WF (s : Strm) : Prop := s.1.length = 8 ∧ s.2.1.length = 64
def strmT (s : Strm) : List V := strm s.1 s.2.1 s.2.2
def s0 : Strm := (IV, List.replicate 64 0, 0)
def addT (s : Strm) (t : List UInt8) : Strm := addF s.1 s.2.1 s.2.2 t
def endT (s : Strm) : List UInt8 := endF s.1 s.2.1 s.2.2
theorem wf0 : WF s0 := ⟨rfl, by simp [s0]⟩
theorem wf_add {s : Strm} (h : WF s) (t : List UInt8) : WF (addT s t) := addF_len _ _ h.1 h.2
theorem addT_n (s : Strm) (t : List UInt8) (h : s.2.2 + t.length < 18446744073709551616) : (addT s t).2.2 = s.2.2 + t.length := addF_n _ _ _ _ h
theorem endT_len (s : Strm) : (endT s).length = 32 := outB_len _ _
theorem shaH_eq (b : List UInt8) : shaH b = endT (addT s0 b) := rfl
section
variable {o : Hp}
theorem scT (s : Strm) : scalar (.agg (strmT s)) = true := sc_strm
theorem frT {m : Nat} (s : Strm) : frz o (m + 2) (.agg (strmT s)) = some (.agg (strmT s), []) := fr_strm
theorem fmT {m : Nat} (s : Strm) : (strmT s).flatMap (looks o m) = [] := fm_strm
theorem storeT (a : V) (s : Strm) (h : WF s) : vStore o 73 a (.agg (strmT s)) = sto o (strmT s) a := vStore_strm a h.1 h.2
end
theorem cutT (s : Strm) (h : WF s) : cut 0 73 (strmT s) = some (strmT s) := strm_cut73 h.1 h.2
theorem allT (s s' : Strm) (h : WF s) (h' : WF s') : splice 0 (strmT s) (strmT s') = some (strmT s) := strm_all h.1 h.2 h'.1 h'.2
def z0 : Strm := (List.replicate 8 0, List.replicate 64 0, 0)
theorem wfz : WF z0 := ⟨by simp [z0], by simp [z0]⟩
theorem zT : (List.replicate 8 0).map n32 ++ ((List.replicate 64 (0 : UInt8)).map b8 ++ [.int .u64 ((0 : Nat) : Int)]) = strmT z0 := rfl
theorem begin_okT (hE : EOK G E) : valP (cfW G T E) 18 [] = some (.ret (.agg (strmT s0))) := begin_ok hE
theorem add_okT (hE : EOK G E) (s : Strm) (t : List UInt8) (h : WF s) : valP (cfW G T E) 19 [.agg (strmT s), .str t] = some (.ret (.agg (strmT (addT s t)))) := add_ok hE _ _ _ _ h.1 h.2
theorem ssum_okT (hE : EOK G E) (s : Strm) (h : WF s) (hn : s.2.2 < 9000000000000000000) : valP (cfW G T E) 21 [.agg (strmT s)] = some (.ret (.agg ((endT s).map b8))) := ssum_ok hE _ _ _ h.1 h.2 hn
end Go.Proofs.YtoccgkgdhobmfaaDoor.Am.Ru

set_option maxRecDepth 100000
set_option linter.unusedSimpArgs false
set_option linter.unusedVariables false
namespace Go.Proofs.YtoccgkgdhobmfaaDoor.Am.Ru
open Go
variable {G : Nat → Option (List V)} {E : Nat → Option (CallFn → List V → Hp → Nat → Option Out)}

theorem shaR_len (b : List UInt8) : (shaR b).length = 32 := outB_len _ _
theorem shaH_len (b : List UInt8) : (shaH b).length = 32 := outB_len _ _
theorem short_ok (hE : EOK G E) (hR : G 0 = some (KL.map n32)) (b : List UInt8) (hb : b.length ≤ 1000000) : valP (cfW G T E) 53 [.sl 1 (bytesV b)] = some (.ret (.agg (((shaR b).take 16).map b8))) := by
  have hs := shaR_len b
  refine vrun 6 (m := m53) hE rfl rfl rfl rfl ?_
  simp (maxSteps := 10000000) (disch := first | assumption | omega | (simp only [List.length_map, List.length_set, List.length_replicate, List.length_drop, List.length_take, List.length_append, List.length_cons, List.length_nil, bytes_len, strs_len] <;> omega) | with_reducible exact xor8_lt _ _ | with_reducible exact or8_lt _ _ | with_reducible exact toNat_lt8 _ | with_reducible exact rowP_ok _ _ _ _ _ | with_reducible exact rowOK_nil _ _ | (apply rowOK_put <;> first | assumption | exact rowP_ok _ _ _ _ _ | omega)) only [↓rsd, rsu, ↓reduceIte, Option.map_some, Option.map_none, Option.getD_some, Option.getD_none, List.map_cons, List.map_nil, List.cons_append, List.nil_append, List.append_nil, List.getD_cons_zero, List.getD_cons_succ, List.length_cons, List.length_nil, List.getElem?_cons_zero, List.getElem?_cons_succ, List.set_cons_zero, List.set_cons_succ, Nat.reduceEqDiff, Nat.reduceBEq, Nat.reduceAdd, Nat.reduceMul, Nat.reduceSub, Int.reduceToNat, List.length_set, List.length_replicate, List.length_map, eq_self, Nat.reduceLT, Nat.reduceLeDiff, List.flatMap_cons, List.flatMap_nil, List.all_cons, List.all_nil, List.isEmpty_nil, List.isEmpty_cons, Int.reduceAdd, Int.reduceMul, Int.reduceSub, Int.reduceNeg, Int.reduceDiv, Int.reduceMod, forall_const, m53, rsum_ok hE hR]
  generalize shaR b = H at *
  refine go_loop2 6 (fun c s => ∃ i : Nat, c = 16 - i ∧ i ≤ 16 ∧ s.N = 3 ∧ s.e 2 = .ptr 0 0 ∧ s.e 3 = .ptr 1 0 ∧ s.e 4 = .ptr 2 0 ∧ s.e 5 = .int .i64 i ∧ s.o 0 = .box ((List.replicate 16 (0 : UInt8)).map b8) ∧ s.o 1 = .box (H.map b8) ∧ s.o 2 = .box ((H.take i ++ List.replicate (16 - i) 0).map b8)) 16 ?_ ?_
  · refine ⟨0, rfl, by omega, rfl, ?_⟩
    simp (maxSteps := 10000000) (disch := first | assumption | omega | (simp only [List.length_map, List.length_set, List.length_replicate, List.length_drop, List.length_take, List.length_append, List.length_cons, List.length_nil, bytes_len, strs_len] <;> omega) | with_reducible exact xor8_lt _ _ | with_reducible exact or8_lt _ _ | with_reducible exact toNat_lt8 _ | with_reducible exact rowP_ok _ _ _ _ _ | with_reducible exact rowOK_nil _ _ | (apply rowOK_put <;> first | assumption | exact rowP_ok _ _ _ _ _ | omega)) only [↓rsd, rsu, ↓reduceIte, Option.map_some, Option.map_none, Option.getD_some, Option.getD_none, List.map_cons, List.map_nil, List.cons_append, List.nil_append, List.append_nil, List.getD_cons_zero, List.getD_cons_succ, List.length_cons, List.length_nil, List.getElem?_cons_zero, List.getElem?_cons_succ, List.set_cons_zero, List.set_cons_succ, Nat.reduceEqDiff, Nat.reduceBEq, Nat.reduceAdd, Nat.reduceMul, Nat.reduceSub, Int.reduceToNat, List.length_set, List.length_replicate, List.length_map, eq_self, Nat.reduceLT, Nat.reduceLeDiff, List.flatMap_cons, List.flatMap_nil, List.all_cons, List.all_nil, List.isEmpty_nil, List.isEmpty_cons, Int.reduceAdd, Int.reduceMul, Int.reduceSub, Int.reduceNeg, Int.reduceDiv, Int.reduceMod, forall_const]
    exact ⟨rfl, rfl⟩
  · rintro c e o N ⟨i, hc, hi, rfl, e2, e3, e4, e5, o0, o1, o2⟩
    simp only at e2 e3 e4 e5 o0 o1 o2
    have hl : (H.take i ++ List.replicate (16 - i) (0 : UInt8)).length = 16 := by simp; omega
    by_cases hlt : i < 16
    · have hset : (H.take i ++ List.replicate (16 - i) (0 : UInt8)).set i (H.getD i 0) = H.take (i + 1) ++ List.replicate (16 - (i + 1)) 0 := by
        rw [take_succ_getD _ _ (by omega), List.set_append_right _ _ (by simp; omega), show 16 - i = (16 - (i + 1)) + 1 by omega, List.replicate_succ, List.append_assoc]
        rw [show i - (H.take i).length = 0 by simp; omega]; rfl
      simp (maxSteps := 10000000) (disch := first | assumption | omega | (simp only [List.length_map, List.length_set, List.length_replicate, List.length_drop, List.length_take, List.length_append, List.length_cons, List.length_nil, bytes_len, strs_len] <;> omega) | with_reducible exact xor8_lt _ _ | with_reducible exact or8_lt _ _ | with_reducible exact toNat_lt8 _ | with_reducible exact rowP_ok _ _ _ _ _ | with_reducible exact rowOK_nil _ _ | (apply rowOK_put <;> first | assumption | exact rowP_ok _ _ _ _ _ | omega)) only [↓rsd, rsu, ↓reduceIte, Option.map_some, Option.map_none, Option.getD_some, Option.getD_none, List.map_cons, List.map_nil, List.cons_append, List.nil_append, List.append_nil, List.getD_cons_zero, List.getD_cons_succ, List.length_cons, List.length_nil, List.getElem?_cons_zero, List.getElem?_cons_succ, List.set_cons_zero, List.set_cons_succ, Nat.reduceEqDiff, Nat.reduceBEq, Nat.reduceAdd, Nat.reduceMul, Nat.reduceSub, Int.reduceToNat, List.length_set, List.length_replicate, List.length_map, eq_self, Nat.reduceLT, Nat.reduceLeDiff, List.flatMap_cons, List.flatMap_nil, List.all_cons, List.all_nil, List.isEmpty_nil, List.isEmpty_cons, Int.reduceAdd, Int.reduceMul, Int.reduceSub, Int.reduceNeg, Int.reduceDiv, Int.reduceMod, forall_const, e2, e3, e4, e5, o0, o1, o2, hset]
      exact ⟨_, by omega, i + 1, rfl, by omega, rfl, rfl⟩
    · have hi16 : i = 16 := by omega
      subst hi16
      simp (maxSteps := 10000000) (disch := first | assumption | omega | (simp only [List.length_map, List.length_set, List.length_replicate, List.length_drop, List.length_take, List.length_append, List.length_cons, List.length_nil, bytes_len, strs_len] <;> omega) | with_reducible exact xor8_lt _ _ | with_reducible exact or8_lt _ _ | with_reducible exact toNat_lt8 _ | with_reducible exact rowP_ok _ _ _ _ _ | with_reducible exact rowOK_nil _ _ | (apply rowOK_put <;> first | assumption | exact rowP_ok _ _ _ _ _ | omega)) only [↓rsd, rsu, ↓reduceIte, Option.map_some, Option.map_none, Option.getD_some, Option.getD_none, List.map_cons, List.map_nil, List.cons_append, List.nil_append, List.append_nil, List.getD_cons_zero, List.getD_cons_succ, List.length_cons, List.length_nil, List.getElem?_cons_zero, List.getElem?_cons_succ, List.set_cons_zero, List.set_cons_succ, Nat.reduceEqDiff, Nat.reduceBEq, Nat.reduceAdd, Nat.reduceMul, Nat.reduceSub, Int.reduceToNat, List.length_set, List.length_replicate, List.length_map, eq_self, Nat.reduceLT, Nat.reduceLeDiff, List.flatMap_cons, List.flatMap_nil, List.all_cons, List.all_nil, List.isEmpty_nil, List.isEmpty_cons, Int.reduceAdd, Int.reduceMul, Int.reduceSub, Int.reduceNeg, Int.reduceDiv, Int.reduceMod, forall_const, e2, e3, e4, e5, o0, o1, o2]
      rw [List.replicate_zero, List.append_nil]
def inputR (tag : Nat) (parts : List (List UInt8)) : List UInt8 := UInt8.ofNat tag :: (parts.map strB).flatten
theorem flat_take (parts : List (List UInt8)) (i : Nat) (h : i < parts.length) : ((parts.take (i + 1)).map strB).flatten = ((parts.take i).map strB).flatten ++ strB (parts.getD i []) := by
  rw [List.take_add_one, List.getElem?_eq_getElem h, List.map_append, List.flatten_append]
  simp [List.getD, h]
theorem strB_len (s : List UInt8) : (strB s).length ≤ s.length + 9 := by unfold strB; have := intB_lt s.length; simp; omega
/-- Parts that are not many and not long. -/
def few (l : List (List UInt8)) : Prop := l.length ≤ 100 ∧ ∀ s ∈ l, s.length ≤ 5000
theorem few_get {l : List (List UInt8)} (h : few l) (i : Nat) : (l.getD i []).length ≤ 5000 := by
  rcases Nat.lt_or_ge i l.length with hi | hi
  · have : l.getD i [] = l[i] := by simp [List.getD, hi]
    rw [this]; exact h.2 _ (List.getElem_mem hi)
  · have : l.getD i [] = [] := by simp [List.getD, hi]
    rw [this]; exact Nat.zero_le _
theorem flat_len {l : List (List UInt8)} (h : few l) : ∀ i, i ≤ l.length → ((l.take i).map strB).flatten.length ≤ 5009 * i := by
  intro i
  induction i with
  | zero => intro _; simp
  | succ i ih =>
    intro hi
    rw [flat_take l i hi, List.length_append]
    have h1 := ih (by omega)
    have h2 := strB_len (l.getD i [])
    have h3 := few_get h i
    omega
theorem input_ok (hE : EOK G E) (tag : Int) (parts : List (List UInt8)) (hf : few parts) (h0 : -9223372036854775808 ≤ tag) (h1 : tag < 9223372036854775808) :
    valP (cfW G T E) 27 [.int .i64 tag, .sl 1 (strsV parts)] = some (.ret (.own 1 (bytesV (inputR (tag % 256).toNat parts)))) := by
  have hw : IntKind.u8.wrap tag = (((tag % 256).toNat : Nat) : Int) := by rw [IntKind.wrap_u8]; omega
  have hw2 : (tag % 256).toNat < 256 := by omega
  generalize (tag % 256).toNat = tg at *
  have hpl := hf.1
  refine vrun 7 (m := m27) hE rfl rfl rfl rfl ?_
  simp (maxSteps := 10000000) (disch := first | assumption | omega | (simp only [List.length_map, List.length_set, List.length_replicate, List.length_drop, List.length_take, List.length_append, List.length_cons, List.length_nil, bytes_len, strs_len] <;> omega) | with_reducible exact xor8_lt _ _ | with_reducible exact or8_lt _ _ | with_reducible exact toNat_lt8 _ | with_reducible exact rowP_ok _ _ _ _ _ | with_reducible exact rowOK_nil _ _ | (apply rowOK_put <;> first | assumption | exact rowP_ok _ _ _ _ _ | omega)) only [↓rsd, rsu, ↓reduceIte, Option.map_some, Option.map_none, Option.getD_some, Option.getD_none, List.map_cons, List.map_nil, List.cons_append, List.nil_append, List.append_nil, List.getD_cons_zero, List.getD_cons_succ, List.length_cons, List.length_nil, List.getElem?_cons_zero, List.getElem?_cons_succ, List.set_cons_zero, List.set_cons_succ, Nat.reduceEqDiff, Nat.reduceBEq, Nat.reduceAdd, Nat.reduceMul, Nat.reduceSub, Int.reduceToNat, List.length_set, List.length_replicate, List.length_map, eq_self, Nat.reduceLT, Nat.reduceLeDiff, List.flatMap_cons, List.flatMap_nil, List.all_cons, List.all_nil, List.isEmpty_nil, List.isEmpty_cons, Int.reduceAdd, Int.reduceMul, Int.reduceSub, Int.reduceNeg, Int.reduceDiv, Int.reduceMod, forall_const, m27, hw]
  refine go_loop2 7 (fun c s => ∃ i j : Nat, c = parts.length - i ∧ i ≤ parts.length ∧ j < s.N ∧ s.e 1 = .sl 1 (strsV parts) ∧ s.e 5 = .vsl j 0 (1 + ((parts.take i).map strB).flatten.length) ∧ s.e 6 = .int .i64 i ∧ s.o j = .vec 1 (bytesV (UInt8.ofNat tg :: ((parts.take i).map strB).flatten))) parts.length ?_ ?_
  · refine ⟨0, 0, rfl, by omega, Nat.lt_succ_self _, ?_⟩
    have := bytes_snocN [] tg hw2
    simp (maxSteps := 10000000) (disch := first | assumption | omega | (simp only [List.length_map, List.length_set, List.length_replicate, List.length_drop, List.length_take, List.length_append, List.length_cons, List.length_nil, bytes_len, strs_len] <;> omega) | with_reducible exact xor8_lt _ _ | with_reducible exact or8_lt _ _ | with_reducible exact toNat_lt8 _ | with_reducible exact rowP_ok _ _ _ _ _ | with_reducible exact rowOK_nil _ _ | (apply rowOK_put <;> first | assumption | exact rowP_ok _ _ _ _ _ | omega)) only [↓rsd, rsu, ↓reduceIte, Option.map_some, Option.map_none, Option.getD_some, Option.getD_none, List.map_cons, List.map_nil, List.cons_append, List.nil_append, List.append_nil, List.getD_cons_zero, List.getD_cons_succ, List.length_cons, List.length_nil, List.getElem?_cons_zero, List.getElem?_cons_succ, List.set_cons_zero, List.set_cons_succ, Nat.reduceEqDiff, Nat.reduceBEq, Nat.reduceAdd, Nat.reduceMul, Nat.reduceSub, Int.reduceToNat, List.length_set, List.length_replicate, List.length_map, eq_self, Nat.reduceLT, Nat.reduceLeDiff, List.flatMap_cons, List.flatMap_nil, List.all_cons, List.all_nil, List.isEmpty_nil, List.isEmpty_cons, Int.reduceAdd, Int.reduceMul, Int.reduceSub, Int.reduceNeg, Int.reduceDiv, Int.reduceMod, forall_const]
    exact ⟨rfl, rfl, by rw [show ([[V.int .u8 (tg : Int)]] : List (List V)) = bytesV [UInt8.ofNat tg] from this]; rfl⟩
  · rintro c e o N ⟨i, j, hc, hi, hj, e1, e5, e6, oj⟩
    simp only at hj e1 e5 e6 oj
    by_cases hlt : i < parts.length
    · have hfl := flat_len hf i hi
      have hg := few_get hf i
      have hsb := strB_len (parts.getD i [])
      have ne : strB (parts.getD i []) ≠ [] := by unfold strB; simp [intB_ne]
      simp (maxSteps := 10000000) (disch := first | assumption | omega | (simp only [List.length_map, List.length_set, List.length_replicate, List.length_drop, List.length_take, List.length_append, List.length_cons, List.length_nil, bytes_len, strs_len] <;> omega) | with_reducible exact xor8_lt _ _ | with_reducible exact or8_lt _ _ | with_reducible exact toNat_lt8 _ | with_reducible exact rowP_ok _ _ _ _ _ | with_reducible exact rowOK_nil _ _ | (apply rowOK_put <;> first | assumption | exact rowP_ok _ _ _ _ _ | omega)) only [↓rsd, rsu, ↓reduceIte, Option.map_some, Option.map_none, Option.getD_some, Option.getD_none, List.map_cons, List.map_nil, List.cons_append, List.nil_append, List.append_nil, List.getD_cons_zero, List.getD_cons_succ, List.length_cons, List.length_nil, List.getElem?_cons_zero, List.getElem?_cons_succ, List.set_cons_zero, List.set_cons_succ, Nat.reduceEqDiff, Nat.reduceBEq, Nat.reduceAdd, Nat.reduceMul, Nat.reduceSub, Int.reduceToNat, List.length_set, List.length_replicate, List.length_map, eq_self, Nat.reduceLT, Nat.reduceLeDiff, List.flatMap_cons, List.flatMap_nil, List.all_cons, List.all_nil, List.isEmpty_nil, List.isEmpty_cons, Int.reduceAdd, Int.reduceMul, Int.reduceSub, Int.reduceNeg, Int.reduceDiv, Int.reduceMod, forall_const, e1, e5, e6, oj, rbytes_ok hE]
      refine ⟨_, by omega, i + 1, N, rfl, by omega, by omega, ?_, rfl, ?_⟩
      · rw [flat_take _ _ hlt, List.length_append, Nat.add_assoc]
      · rw [if_pos rfl, flat_take _ _ hlt]
    · have hip : i = parts.length := by omega
      subst hip
      rw [List.take_length] at *
      simp (maxSteps := 10000000) (disch := first | assumption | omega | (simp only [List.length_map, List.length_set, List.length_replicate, List.length_drop, List.length_take, List.length_append, List.length_cons, List.length_nil, bytes_len, strs_len] <;> omega) | with_reducible exact xor8_lt _ _ | with_reducible exact or8_lt _ _ | with_reducible exact toNat_lt8 _ | with_reducible exact rowP_ok _ _ _ _ _ | with_reducible exact rowOK_nil _ _ | (apply rowOK_put <;> first | assumption | exact rowP_ok _ _ _ _ _ | omega)) only [↓rsd, rsu, ↓reduceIte, Option.map_some, Option.map_none, Option.getD_some, Option.getD_none, List.map_cons, List.map_nil, List.cons_append, List.nil_append, List.append_nil, List.getD_cons_zero, List.getD_cons_succ, List.length_cons, List.length_nil, List.getElem?_cons_zero, List.getElem?_cons_succ, List.set_cons_zero, List.set_cons_succ, Nat.reduceEqDiff, Nat.reduceBEq, Nat.reduceAdd, Nat.reduceMul, Nat.reduceSub, Int.reduceToNat, List.length_set, List.length_replicate, List.length_map, eq_self, Nat.reduceLT, Nat.reduceLeDiff, List.flatMap_cons, List.flatMap_nil, List.all_cons, List.all_nil, List.isEmpty_nil, List.isEmpty_cons, Int.reduceAdd, Int.reduceMul, Int.reduceSub, Int.reduceNeg, Int.reduceDiv, Int.reduceMod, forall_const, e1, e5, e6, oj]
      rfl
end Go.Proofs.YtoccgkgdhobmfaaDoor.Am.Ru

set_option maxRecDepth 100000
set_option linter.unusedSimpArgs false
set_option linter.unusedVariables false
namespace Go.Proofs.YtoccgkgdhobmfaaDoor.Am.Ru
open Go
variable {G : Nat → Option (List V)} {E : Nat → Option (CallFn → List V → Hp → Nat → Option Out)}

theorem inputR_len {parts : List (List UInt8)} (hf : few parts) (tg : Nat) : (inputR tg parts).length ≤ 600000 := by
  have h := flat_len hf parts.length (Nat.le_refl _)
  rw [List.take_length] at h
  have := hf.1
  unfold inputR; simp only [List.length_cons]; omega
def ofR (tag : Int) (parts : List (List UInt8)) : List UInt8 := (shaR (inputR (tag % 256).toNat parts)).take 16
theorem ofR_len (tag : Int) (parts : List (List UInt8)) : (ofR tag parts).length = 16 := by unfold ofR; have := shaR_len (inputR (tag % 256).toNat parts); simp; omega
theorem rof_ok (hE : EOK G E) (hR : G 0 = some (KL.map n32)) (tag : Int) (parts : List (List UInt8)) (hf : few parts) (h0 : -9223372036854775808 ≤ tag) (h1 : tag < 9223372036854775808) :
    valP (cfW G T E) 26 [.int .i64 tag, .sl 1 (strsV parts)] = some (.ret (.agg ((ofR tag parts).map b8))) := by
  have hl := inputR_len hf (tag % 256).toNat
  have h3 := shaR_len (inputR (tag % 256).toNat parts)
  have hof : ofR tag parts = (shaR (inputR (tag % 256).toNat parts)).take 16 := rfl
  rw [hof]
  refine vrun 4 (m := m26) hE rfl rfl rfl rfl ?_
  simp (maxSteps := 10000000) (disch := first | assumption | omega | (simp only [List.length_map, List.length_set, List.length_replicate, List.length_drop, List.length_take, List.length_append, List.length_cons, List.length_nil, bytes_len, strs_len] <;> omega) | with_reducible exact xor8_lt _ _ | with_reducible exact or8_lt _ _ | with_reducible exact toNat_lt8 _ | with_reducible exact rowP_ok _ _ _ _ _ | with_reducible exact rowOK_nil _ _ | (apply rowOK_put <;> first | assumption | exact rowP_ok _ _ _ _ _ | omega)) only [↓rsd, rsu, ↓reduceIte, Option.map_some, Option.map_none, Option.getD_some, Option.getD_none, List.map_cons, List.map_nil, List.cons_append, List.nil_append, List.append_nil, List.getD_cons_zero, List.getD_cons_succ, List.length_cons, List.length_nil, List.getElem?_cons_zero, List.getElem?_cons_succ, List.set_cons_zero, List.set_cons_succ, Nat.reduceEqDiff, Nat.reduceBEq, Nat.reduceAdd, Nat.reduceMul, Nat.reduceSub, Int.reduceToNat, List.length_set, List.length_replicate, List.length_map, eq_self, Nat.reduceLT, Nat.reduceLeDiff, List.flatMap_cons, List.flatMap_nil, List.all_cons, List.all_nil, List.isEmpty_nil, List.isEmpty_cons, Int.reduceAdd, Int.reduceMul, Int.reduceSub, Int.reduceNeg, Int.reduceDiv, Int.reduceMod, forall_const, m26, input_ok hE, short_ok hE hR]
/-- The concatenation. -/
def joinL (l : List (List UInt8)) : List UInt8 := l.flatten
theorem join_take (l : List (List UInt8)) (i : Nat) (h : i < l.length) : joinL (l.take (i + 1)) = joinL (l.take i) ++ l.getD i [] := by
  unfold joinL; rw [List.take_add_one, List.getElem?_eq_getElem h, List.flatten_append]; simp [List.getD, h]
theorem join_len {l : List (List UInt8)} (h : few l) : ∀ i, i ≤ l.length → (joinL (l.take i)).length ≤ 5000 * i := by
  intro i
  induction i with
  | zero => intro _; simp [joinL]
  | succ i ih =>
    intro hi
    rw [join_take l i hi, List.length_append]
    have h1 := ih (by omega)
    have h3 := few_get h i
    omega
theorem joined_ok (hE : EOK G E) (l : List (List UInt8)) (hf : few l) : valP (cfW G T E) 20 [.sl 1 (strsV l)] = some (.ret (.str (joinL l))) := by
  have hpl := hf.1
  refine vrun 5 (m := m20) hE rfl rfl rfl rfl ?_
  simp (maxSteps := 10000000) (disch := first | assumption | omega | (simp only [List.length_map, List.length_set, List.length_replicate, List.length_drop, List.length_take, List.length_append, List.length_cons, List.length_nil, bytes_len, strs_len] <;> omega) | with_reducible exact xor8_lt _ _ | with_reducible exact or8_lt _ _ | with_reducible exact toNat_lt8 _ | with_reducible exact rowP_ok _ _ _ _ _ | with_reducible exact rowOK_nil _ _ | (apply rowOK_put <;> first | assumption | exact rowP_ok _ _ _ _ _ | omega)) only [↓rsd, rsu, ↓reduceIte, Option.map_some, Option.map_none, Option.getD_some, Option.getD_none, List.map_cons, List.map_nil, List.cons_append, List.nil_append, List.append_nil, List.getD_cons_zero, List.getD_cons_succ, List.length_cons, List.length_nil, List.getElem?_cons_zero, List.getElem?_cons_succ, List.set_cons_zero, List.set_cons_succ, Nat.reduceEqDiff, Nat.reduceBEq, Nat.reduceAdd, Nat.reduceMul, Nat.reduceSub, Int.reduceToNat, List.length_set, List.length_replicate, List.length_map, eq_self, Nat.reduceLT, Nat.reduceLeDiff, List.flatMap_cons, List.flatMap_nil, List.all_cons, List.all_nil, List.isEmpty_nil, List.isEmpty_cons, Int.reduceAdd, Int.reduceMul, Int.reduceSub, Int.reduceNeg, Int.reduceDiv, Int.reduceMod, forall_const, m20]
  refine go_loop2 5 (fun c s => ∃ i : Nat, c = l.length - i ∧ i ≤ l.length ∧ s.N = 0 ∧ s.e 0 = .sl 1 (strsV l) ∧ s.e 3 = .str (joinL (l.take i)) ∧ s.e 4 = .int .i64 i) l.length ?_ ?_
  · refine ⟨0, rfl, by omega, rfl, ?_⟩
    simp (maxSteps := 10000000) (disch := first | assumption | omega | (simp only [List.length_map, List.length_set, List.length_replicate, List.length_drop, List.length_take, List.length_append, List.length_cons, List.length_nil, bytes_len, strs_len] <;> omega) | with_reducible exact xor8_lt _ _ | with_reducible exact or8_lt _ _ | with_reducible exact toNat_lt8 _ | with_reducible exact rowP_ok _ _ _ _ _ | with_reducible exact rowOK_nil _ _ | (apply rowOK_put <;> first | assumption | exact rowP_ok _ _ _ _ _ | omega)) only [↓rsd, rsu, ↓reduceIte, Option.map_some, Option.map_none, Option.getD_some, Option.getD_none, List.map_cons, List.map_nil, List.cons_append, List.nil_append, List.append_nil, List.getD_cons_zero, List.getD_cons_succ, List.length_cons, List.length_nil, List.getElem?_cons_zero, List.getElem?_cons_succ, List.set_cons_zero, List.set_cons_succ, Nat.reduceEqDiff, Nat.reduceBEq, Nat.reduceAdd, Nat.reduceMul, Nat.reduceSub, Int.reduceToNat, List.length_set, List.length_replicate, List.length_map, eq_self, Nat.reduceLT, Nat.reduceLeDiff, List.flatMap_cons, List.flatMap_nil, List.all_cons, List.all_nil, List.isEmpty_nil, List.isEmpty_cons, Int.reduceAdd, Int.reduceMul, Int.reduceSub, Int.reduceNeg, Int.reduceDiv, Int.reduceMod, forall_const]
    exact ⟨rfl, rfl⟩
  · rintro c e o N ⟨i, hc, hi, rfl, e0, e3, e4⟩
    simp only at e0 e3 e4
    by_cases hlt : i < l.length
    · have h1 := join_len hf i hi
      have h2 := few_get hf i
      simp (maxSteps := 10000000) (disch := first | assumption | omega | (simp only [List.length_map, List.length_set, List.length_replicate, List.length_drop, List.length_take, List.length_append, List.length_cons, List.length_nil, bytes_len, strs_len] <;> omega) | with_reducible exact xor8_lt _ _ | with_reducible exact or8_lt _ _ | with_reducible exact toNat_lt8 _ | with_reducible exact rowP_ok _ _ _ _ _ | with_reducible exact rowOK_nil _ _ | (apply rowOK_put <;> first | assumption | exact rowP_ok _ _ _ _ _ | omega)) only [↓rsd, rsu, ↓reduceIte, Option.map_some, Option.map_none, Option.getD_some, Option.getD_none, List.map_cons, List.map_nil, List.cons_append, List.nil_append, List.append_nil, List.getD_cons_zero, List.getD_cons_succ, List.length_cons, List.length_nil, List.getElem?_cons_zero, List.getElem?_cons_succ, List.set_cons_zero, List.set_cons_succ, Nat.reduceEqDiff, Nat.reduceBEq, Nat.reduceAdd, Nat.reduceMul, Nat.reduceSub, Int.reduceToNat, List.length_set, List.length_replicate, List.length_map, eq_self, Nat.reduceLT, Nat.reduceLeDiff, List.flatMap_cons, List.flatMap_nil, List.all_cons, List.all_nil, List.isEmpty_nil, List.isEmpty_cons, Int.reduceAdd, Int.reduceMul, Int.reduceSub, Int.reduceNeg, Int.reduceDiv, Int.reduceMod, forall_const, e0, e3, e4]
      refine ⟨_, by omega, i + 1, rfl, by omega, ?_, rfl⟩
      rw [join_take _ _ hlt]
    · have hip : i = l.length := by omega
      subst hip
      simp (maxSteps := 10000000) (disch := first | assumption | omega | (simp only [List.length_map, List.length_set, List.length_replicate, List.length_drop, List.length_take, List.length_append, List.length_cons, List.length_nil, bytes_len, strs_len] <;> omega) | with_reducible exact xor8_lt _ _ | with_reducible exact or8_lt _ _ | with_reducible exact toNat_lt8 _ | with_reducible exact rowP_ok _ _ _ _ _ | with_reducible exact rowOK_nil _ _ | (apply rowOK_put <;> first | assumption | exact rowP_ok _ _ _ _ _ | omega)) only [↓rsd, rsu, ↓reduceIte, Option.map_some, Option.map_none, Option.getD_some, Option.getD_none, List.map_cons, List.map_nil, List.cons_append, List.nil_append, List.append_nil, List.getD_cons_zero, List.getD_cons_succ, List.length_cons, List.length_nil, List.getElem?_cons_zero, List.getElem?_cons_succ, List.set_cons_zero, List.set_cons_succ, Nat.reduceEqDiff, Nat.reduceBEq, Nat.reduceAdd, Nat.reduceMul, Nat.reduceSub, Int.reduceToNat, List.length_set, List.length_replicate, List.length_map, eq_self, Nat.reduceLT, Nat.reduceLeDiff, List.flatMap_cons, List.flatMap_nil, List.all_cons, List.all_nil, List.isEmpty_nil, List.isEmpty_cons, Int.reduceAdd, Int.reduceMul, Int.reduceSub, Int.reduceNeg, Int.reduceDiv, Int.reduceMod, forall_const, e0, e3, e4]
/-- At most 12 strings of at most 400 bytes. -/
def fewB (l : List (List UInt8)) : Bool := decide (l.length ≤ 12) && l.all fun s => decide (s.length ≤ 400)
theorem few_of {l : List (List UInt8)} (h : fewB l = true) : few l := by
  simp only [fewB, Bool.and_eq_true, decide_eq_true_eq, List.all_eq_true] at h
  exact ⟨by omega, fun s hs => by have := h.2 s hs; omega⟩
theorem few_ok (hE : EOK G E) (l : List (List UInt8)) (hl : l.length < 9223372036854775808) (hs : ∀ s ∈ l, s.length < 9223372036854775808) : valP (cfW G T E) 17 [.sl 1 (strsV l)] = some (.ret (.bool (fewB l))) := by
  refine vrun 4 (m := m17) hE rfl rfl rfl rfl ?_
  by_cases h12 : l.length ≤ 12
  · simp (maxSteps := 10000000) (disch := first | assumption | omega | (simp only [List.length_map, List.length_set, List.length_replicate, List.length_drop, List.length_take, List.length_append, List.length_cons, List.length_nil, bytes_len, strs_len] <;> omega) | with_reducible exact xor8_lt _ _ | with_reducible exact or8_lt _ _ | with_reducible exact toNat_lt8 _ | with_reducible exact rowP_ok _ _ _ _ _ | with_reducible exact rowOK_nil _ _ | (apply rowOK_put <;> first | assumption | exact rowP_ok _ _ _ _ _ | omega)) only [↓rsd, rsu, ↓reduceIte, Option.map_some, Option.map_none, Option.getD_some, Option.getD_none, List.map_cons, List.map_nil, List.cons_append, List.nil_append, List.append_nil, List.getD_cons_zero, List.getD_cons_succ, List.length_cons, List.length_nil, List.getElem?_cons_zero, List.getElem?_cons_succ, List.set_cons_zero, List.set_cons_succ, Nat.reduceEqDiff, Nat.reduceBEq, Nat.reduceAdd, Nat.reduceMul, Nat.reduceSub, Int.reduceToNat, List.length_set, List.length_replicate, List.length_map, eq_self, Nat.reduceLT, Nat.reduceLeDiff, List.flatMap_cons, List.flatMap_nil, List.all_cons, List.all_nil, List.isEmpty_nil, List.isEmpty_cons, Int.reduceAdd, Int.reduceMul, Int.reduceSub, Int.reduceNeg, Int.reduceDiv, Int.reduceMod, forall_const, m17]
    refine go_loop2 4 (fun c s => ∃ i : Nat, c = l.length - i ∧ i ≤ l.length ∧ (∀ j, j < i → (l.getD j []).length ≤ 400) ∧ s.N = 0 ∧ s.e 0 = .sl 1 (strsV l) ∧ s.e 3 = .int .i64 i) l.length ?_ ?_
    · refine ⟨0, rfl, by omega, fun j hj => by omega, rfl, ?_⟩
      simp (maxSteps := 10000000) (disch := first | assumption | omega | (simp only [List.length_map, List.length_set, List.length_replicate, List.length_drop, List.length_take, List.length_append, List.length_cons, List.length_nil, bytes_len, strs_len] <;> omega) | with_reducible exact xor8_lt _ _ | with_reducible exact or8_lt _ _ | with_reducible exact toNat_lt8 _ | with_reducible exact rowP_ok _ _ _ _ _ | with_reducible exact rowOK_nil _ _ | (apply rowOK_put <;> first | assumption | exact rowP_ok _ _ _ _ _ | omega)) only [↓rsd, rsu, ↓reduceIte, Option.map_some, Option.map_none, Option.getD_some, Option.getD_none, List.map_cons, List.map_nil, List.cons_append, List.nil_append, List.append_nil, List.getD_cons_zero, List.getD_cons_succ, List.length_cons, List.length_nil, List.getElem?_cons_zero, List.getElem?_cons_succ, List.set_cons_zero, List.set_cons_succ, Nat.reduceEqDiff, Nat.reduceBEq, Nat.reduceAdd, Nat.reduceMul, Nat.reduceSub, Int.reduceToNat, List.length_set, List.length_replicate, List.length_map, eq_self, Nat.reduceLT, Nat.reduceLeDiff, List.flatMap_cons, List.flatMap_nil, List.all_cons, List.all_nil, List.isEmpty_nil, List.isEmpty_cons, Int.reduceAdd, Int.reduceMul, Int.reduceSub, Int.reduceNeg, Int.reduceDiv, Int.reduceMod, forall_const]
      rfl
    · rintro c e o N ⟨i, hc, hi, hall, rfl, e0, e3⟩
      simp only at e0 e3
      by_cases hlt : i < l.length
      · have hg : l.getD i [] = l[i] := by simp [List.getD, hlt]
        by_cases h4 : (l.getD i []).length ≤ 400
        · simp (maxSteps := 10000000) (disch := first | assumption | omega | (simp only [List.length_map, List.length_set, List.length_replicate, List.length_drop, List.length_take, List.length_append, List.length_cons, List.length_nil, bytes_len, strs_len] <;> omega) | with_reducible exact xor8_lt _ _ | with_reducible exact or8_lt _ _ | with_reducible exact toNat_lt8 _ | with_reducible exact rowP_ok _ _ _ _ _ | with_reducible exact rowOK_nil _ _ | (apply rowOK_put <;> first | assumption | exact rowP_ok _ _ _ _ _ | omega)) only [↓rsd, rsu, ↓reduceIte, Option.map_some, Option.map_none, Option.getD_some, Option.getD_none, List.map_cons, List.map_nil, List.cons_append, List.nil_append, List.append_nil, List.getD_cons_zero, List.getD_cons_succ, List.length_cons, List.length_nil, List.getElem?_cons_zero, List.getElem?_cons_succ, List.set_cons_zero, List.set_cons_succ, Nat.reduceEqDiff, Nat.reduceBEq, Nat.reduceAdd, Nat.reduceMul, Nat.reduceSub, Int.reduceToNat, List.length_set, List.length_replicate, List.length_map, eq_self, Nat.reduceLT, Nat.reduceLeDiff, List.flatMap_cons, List.flatMap_nil, List.all_cons, List.all_nil, List.isEmpty_nil, List.isEmpty_cons, Int.reduceAdd, Int.reduceMul, Int.reduceSub, Int.reduceNeg, Int.reduceDiv, Int.reduceMod, forall_const, e0, e3]
          refine ⟨_, by omega, i + 1, rfl, by omega, ?_, rfl⟩
          intro j hj
          rcases Nat.lt_or_ge j i with h | h
          · exact hall j h
          · have : j = i := by omega
            subst this; exact h4
        · simp (maxSteps := 10000000) (disch := first | assumption | omega | (simp only [List.length_map, List.length_set, List.length_replicate, List.length_drop, List.length_take, List.length_append, List.length_cons, List.length_nil, bytes_len, strs_len] <;> omega) | with_reducible exact xor8_lt _ _ | with_reducible exact or8_lt _ _ | with_reducible exact toNat_lt8 _ | with_reducible exact rowP_ok _ _ _ _ _ | with_reducible exact rowOK_nil _ _ | (apply rowOK_put <;> first | assumption | exact rowP_ok _ _ _ _ _ | omega)) only [↓rsd, rsu, ↓reduceIte, Option.map_some, Option.map_none, Option.getD_some, Option.getD_none, List.map_cons, List.map_nil, List.cons_append, List.nil_append, List.append_nil, List.getD_cons_zero, List.getD_cons_succ, List.length_cons, List.length_nil, List.getElem?_cons_zero, List.getElem?_cons_succ, List.set_cons_zero, List.set_cons_succ, Nat.reduceEqDiff, Nat.reduceBEq, Nat.reduceAdd, Nat.reduceMul, Nat.reduceSub, Int.reduceToNat, List.length_set, List.length_replicate, List.length_map, eq_self, Nat.reduceLT, Nat.reduceLeDiff, List.flatMap_cons, List.flatMap_nil, List.all_cons, List.all_nil, List.isEmpty_nil, List.isEmpty_cons, Int.reduceAdd, Int.reduceMul, Int.reduceSub, Int.reduceNeg, Int.reduceDiv, Int.reduceMod, forall_const, e0, e3]
          have : fewB l = false := by
            unfold fewB
            rw [Bool.and_eq_false_iff]; right
            rw [List.all_eq_false]
            exact ⟨l[i], List.getElem_mem hlt, by rw [← hg]; simpa using h4⟩
          rw [this]
      · have hip : i = l.length := by omega
        subst hip
        simp (maxSteps := 10000000) (disch := first | assumption | omega | (simp only [List.length_map, List.length_set, List.length_replicate, List.length_drop, List.length_take, List.length_append, List.length_cons, List.length_nil, bytes_len, strs_len] <;> omega) | with_reducible exact xor8_lt _ _ | with_reducible exact or8_lt _ _ | with_reducible exact toNat_lt8 _ | with_reducible exact rowP_ok _ _ _ _ _ | with_reducible exact rowOK_nil _ _ | (apply rowOK_put <;> first | assumption | exact rowP_ok _ _ _ _ _ | omega)) only [↓rsd, rsu, ↓reduceIte, Option.map_some, Option.map_none, Option.getD_some, Option.getD_none, List.map_cons, List.map_nil, List.cons_append, List.nil_append, List.append_nil, List.getD_cons_zero, List.getD_cons_succ, List.length_cons, List.length_nil, List.getElem?_cons_zero, List.getElem?_cons_succ, List.set_cons_zero, List.set_cons_succ, Nat.reduceEqDiff, Nat.reduceBEq, Nat.reduceAdd, Nat.reduceMul, Nat.reduceSub, Int.reduceToNat, List.length_set, List.length_replicate, List.length_map, eq_self, Nat.reduceLT, Nat.reduceLeDiff, List.flatMap_cons, List.flatMap_nil, List.all_cons, List.all_nil, List.isEmpty_nil, List.isEmpty_cons, Int.reduceAdd, Int.reduceMul, Int.reduceSub, Int.reduceNeg, Int.reduceDiv, Int.reduceMod, forall_const, e0, e3]
        have : fewB l = true := by
          simp only [fewB, Bool.and_eq_true, decide_eq_true_eq, List.all_eq_true]
          refine ⟨h12, fun s hs => ?_⟩
          obtain ⟨j, hj, rfl⟩ := List.getElem_of_mem hs
          have := hall j hj
          simpa [List.getD, hj] using this
        rw [this]
  · simp (maxSteps := 10000000) (disch := first | assumption | omega | (simp only [List.length_map, List.length_set, List.length_replicate, List.length_drop, List.length_take, List.length_append, List.length_cons, List.length_nil, bytes_len, strs_len] <;> omega) | with_reducible exact xor8_lt _ _ | with_reducible exact or8_lt _ _ | with_reducible exact toNat_lt8 _ | with_reducible exact rowP_ok _ _ _ _ _ | with_reducible exact rowOK_nil _ _ | (apply rowOK_put <;> first | assumption | exact rowP_ok _ _ _ _ _ | omega)) only [↓rsd, rsu, ↓reduceIte, Option.map_some, Option.map_none, Option.getD_some, Option.getD_none, List.map_cons, List.map_nil, List.cons_append, List.nil_append, List.append_nil, List.getD_cons_zero, List.getD_cons_succ, List.length_cons, List.length_nil, List.getElem?_cons_zero, List.getElem?_cons_succ, List.set_cons_zero, List.set_cons_succ, Nat.reduceEqDiff, Nat.reduceBEq, Nat.reduceAdd, Nat.reduceMul, Nat.reduceSub, Int.reduceToNat, List.length_set, List.length_replicate, List.length_map, eq_self, Nat.reduceLT, Nat.reduceLeDiff, List.flatMap_cons, List.flatMap_nil, List.all_cons, List.all_nil, List.isEmpty_nil, List.isEmpty_cons, Int.reduceAdd, Int.reduceMul, Int.reduceSub, Int.reduceNeg, Int.reduceDiv, Int.reduceMod, forall_const, m17]
    have : fewB l = false := by unfold fewB; simp [h12]
    rw [this]

/-! ### Codes -/
def keyR (key : List UInt8) : List UInt8 := if 64 < key.length then shaR key else key
theorem keyR_len (key : List UInt8) : (keyR key).length ≤ 64 := by unfold keyR; split; · rw [shaR_len]; omega
                                                                   · omega
def pk (k : List UInt8) (w : Nat) : Nat → List UInt8
  | 0 => []
  | i + 1 => pk k w i ++ [UInt8.ofNat (xor8 (if i < k.length then (k.getD i 0).toNat else 0) w)]
theorem pk_len (k : List UInt8) (w i : Nat) : (pk k w i).length = i := by
  induction i with
  | zero => rfl
  | succ i ih => simp [pk, ih]
theorem padkey_ok (hE : EOK G E) (hR : G 0 = some (KL.map n32)) (key : List UInt8) (w : Nat) (hk : key.length ≤ 1000000) : valP (cfW G T E) 52 [.str key, .int .u8 (w : Nat)] = some (.ret (.own 1 (bytesV (pk (keyR key) w 64)))) := by
  have hkl := keyR_len key
  have hsl := shaR_len key
  refine vrun 9 (m := m52) hE rfl rfl rfl rfl ?_
  rcases Decidable.em (64 < key.length) with hlong | hlong
  case' inl =>
    have hkr : keyR key = shaR key := by unfold keyR; rw [if_pos hlong]
    simp (maxSteps := 10000000) (disch := first | assumption | omega | (simp only [List.length_map, List.length_set, List.length_replicate, List.length_drop, List.length_take, List.length_append, List.length_cons, List.length_nil, bytes_len, strs_len] <;> omega) | with_reducible exact xor8_lt _ _ | with_reducible exact or8_lt _ _ | with_reducible exact toNat_lt8 _ | with_reducible exact rowP_ok _ _ _ _ _ | with_reducible exact rowOK_nil _ _ | (apply rowOK_put <;> first | assumption | exact rowP_ok _ _ _ _ _ | omega)) only [↓rsd, rsu, ↓reduceIte, Option.map_some, Option.map_none, Option.getD_some, Option.getD_none, List.map_cons, List.map_nil, List.cons_append, List.nil_append, List.append_nil, List.getD_cons_zero, List.getD_cons_succ, List.length_cons, List.length_nil, List.getElem?_cons_zero, List.getElem?_cons_succ, List.set_cons_zero, List.set_cons_succ, Nat.reduceEqDiff, Nat.reduceBEq, Nat.reduceAdd, Nat.reduceMul, Nat.reduceSub, Int.reduceToNat, List.length_set, List.length_replicate, List.length_map, eq_self, Nat.reduceLT, Nat.reduceLeDiff, List.flatMap_cons, List.flatMap_nil, List.all_cons, List.all_nil, List.isEmpty_nil, List.isEmpty_cons, Int.reduceAdd, Int.reduceMul, Int.reduceSub, Int.reduceNeg, Int.reduceDiv, Int.reduceMod, forall_const, m52, rsum_ok hE hR, bytes32_ok hE]
    rw [← hkr]
  case' inr =>
    have hkr : keyR key = key := by unfold keyR; rw [if_neg hlong]
    simp (maxSteps := 10000000) (disch := first | assumption | omega | (simp only [List.length_map, List.length_set, List.length_replicate, List.length_drop, List.length_take, List.length_append, List.length_cons, List.length_nil, bytes_len, strs_len] <;> omega) | with_reducible exact xor8_lt _ _ | with_reducible exact or8_lt _ _ | with_reducible exact toNat_lt8 _ | with_reducible exact rowP_ok _ _ _ _ _ | with_reducible exact rowOK_nil _ _ | (apply rowOK_put <;> first | assumption | exact rowP_ok _ _ _ _ _ | omega)) only [↓rsd, rsu, ↓reduceIte, Option.map_some, Option.map_none, Option.getD_some, Option.getD_none, List.map_cons, List.map_nil, List.cons_append, List.nil_append, List.append_nil, List.getD_cons_zero, List.getD_cons_succ, List.length_cons, List.length_nil, List.getElem?_cons_zero, List.getElem?_cons_succ, List.set_cons_zero, List.set_cons_succ, Nat.reduceEqDiff, Nat.reduceBEq, Nat.reduceAdd, Nat.reduceMul, Nat.reduceSub, Int.reduceToNat, List.length_set, List.length_replicate, List.length_map, eq_self, Nat.reduceLT, Nat.reduceLeDiff, List.flatMap_cons, List.flatMap_nil, List.all_cons, List.all_nil, List.isEmpty_nil, List.isEmpty_cons, Int.reduceAdd, Int.reduceMul, Int.reduceSub, Int.reduceNeg, Int.reduceDiv, Int.reduceMod, forall_const, m52]
    conv => arg 6; rw [← hkr]
  all_goals
    clear hkr hsl
    generalize keyR key = K at *
    refine go_loop2 9 (fun c s => ∃ i j : Nat, c = 64 - i ∧ i ≤ 64 ∧ RowOK s.o 1 j (bytesV (pk K w i)) ∧ s.e 1 = .int .u8 (w : Nat) ∧ s.e 5 = .str K ∧ s.e 6 = rowV 1 j (bytesV (pk K w i)) ∧ s.e 7 = .int .i64 i) 64 ?_ ?_
    · refine ⟨0, 1, rfl, by omega, .inl rfl, ?_⟩
      simp (maxSteps := 10000000) (disch := first | assumption | omega | (simp only [List.length_map, List.length_set, List.length_replicate, List.length_drop, List.length_take, List.length_append, List.length_cons, List.length_nil, bytes_len, strs_len] <;> omega) | with_reducible exact xor8_lt _ _ | with_reducible exact or8_lt _ _ | with_reducible exact toNat_lt8 _ | with_reducible exact rowP_ok _ _ _ _ _ | with_reducible exact rowOK_nil _ _ | (apply rowOK_put <;> first | assumption | exact rowP_ok _ _ _ _ _ | omega)) only [↓rsd, rsu, ↓reduceIte, Option.map_some, Option.map_none, Option.getD_some, Option.getD_none, List.map_cons, List.map_nil, List.cons_append, List.nil_append, List.append_nil, List.getD_cons_zero, List.getD_cons_succ, List.length_cons, List.length_nil, List.getElem?_cons_zero, List.getElem?_cons_succ, List.set_cons_zero, List.set_cons_succ, Nat.reduceEqDiff, Nat.reduceBEq, Nat.reduceAdd, Nat.reduceMul, Nat.reduceSub, Int.reduceToNat, List.length_set, List.length_replicate, List.length_map, eq_self, Nat.reduceLT, Nat.reduceLeDiff, List.flatMap_cons, List.flatMap_nil, List.all_cons, List.all_nil, List.isEmpty_nil, List.isEmpty_cons, Int.reduceAdd, Int.reduceMul, Int.reduceSub, Int.reduceNeg, Int.reduceDiv, Int.reduceMod, forall_const]
      exact ⟨rfl, rfl⟩
    · rintro c e o N ⟨i, j, hc, hi, hrow, e1, e5, e6, e7⟩
      simp only at hrow e1 e5 e6 e7
      have hpl := pk_len K w i
      by_cases hlt : i < 64
      · have hfin : ∀ x, x < 256 → (if i < K.length then (K.getD i 0).toNat else 0) = x → RowOK (rowP o 1 j N (bytesV (pk K w i)) [[V.int .u8 ((xor8 x w : Nat) : Int)]]) 1 N (bytesV (pk K w (i + 1))) ∧ rowV 1 N (bytesV (pk K w i ++ [UInt8.ofNat (xor8 x w)])) = rowV 1 N (bytesV (pk K w (i + 1))) := by
          intro x hx hh
          have hr := rowP_ok (o := o) 1 j N (bytesV (pk K w i)) [[.int .u8 ((xor8 x w : Nat) : Int)]]
          rw [bytes_snocN _ _ (xor8_lt _ _)] at hr
          rw [pk, hh]
          exact ⟨hr, rfl⟩
        by_cases hkk : i < K.length
        · have hf := hfin _ (toNat_lt8 _) (if_pos hkk)
          simp (maxSteps := 10000000) (disch := first | assumption | omega | (simp only [List.length_map, List.length_set, List.length_replicate, List.length_drop, List.length_take, List.length_append, List.length_cons, List.length_nil, bytes_len, strs_len] <;> omega) | with_reducible exact xor8_lt _ _ | with_reducible exact or8_lt _ _ | with_reducible exact toNat_lt8 _ | with_reducible exact rowP_ok _ _ _ _ _ | with_reducible exact rowOK_nil _ _ | (apply rowOK_put <;> first | assumption | exact rowP_ok _ _ _ _ _ | omega)) only [↓rsd, rsu, ↓reduceIte, Option.map_some, Option.map_none, Option.getD_some, Option.getD_none, List.map_cons, List.map_nil, List.cons_append, List.nil_append, List.append_nil, List.getD_cons_zero, List.getD_cons_succ, List.length_cons, List.length_nil, List.getElem?_cons_zero, List.getElem?_cons_succ, List.set_cons_zero, List.set_cons_succ, Nat.reduceEqDiff, Nat.reduceBEq, Nat.reduceAdd, Nat.reduceMul, Nat.reduceSub, Int.reduceToNat, List.length_set, List.length_replicate, List.length_map, eq_self, Nat.reduceLT, Nat.reduceLeDiff, List.flatMap_cons, List.flatMap_nil, List.all_cons, List.all_nil, List.isEmpty_nil, List.isEmpty_cons, Int.reduceAdd, Int.reduceMul, Int.reduceSub, Int.reduceNeg, Int.reduceDiv, Int.reduceMod, forall_const, e1, e5, e6, e7]
          exact ⟨_, by omega, i + 1, N, rfl, by omega, hf.1, hf.2, rfl⟩
        · have hf := hfin _ (by decide) (if_neg hkk)
          simp (maxSteps := 10000000) (disch := first | assumption | omega | (simp only [List.length_map, List.length_set, List.length_replicate, List.length_drop, List.length_take, List.length_append, List.length_cons, List.length_nil, bytes_len, strs_len] <;> omega) | with_reducible exact xor8_lt _ _ | with_reducible exact or8_lt _ _ | with_reducible exact toNat_lt8 _ | with_reducible exact rowP_ok _ _ _ _ _ | with_reducible exact rowOK_nil _ _ | (apply rowOK_put <;> first | assumption | exact rowP_ok _ _ _ _ _ | omega)) only [↓rsd, rsu, ↓reduceIte, Option.map_some, Option.map_none, Option.getD_some, Option.getD_none, List.map_cons, List.map_nil, List.cons_append, List.nil_append, List.append_nil, List.getD_cons_zero, List.getD_cons_succ, List.length_cons, List.length_nil, List.getElem?_cons_zero, List.getElem?_cons_succ, List.set_cons_zero, List.set_cons_succ, Nat.reduceEqDiff, Nat.reduceBEq, Nat.reduceAdd, Nat.reduceMul, Nat.reduceSub, Int.reduceToNat, List.length_set, List.length_replicate, List.length_map, eq_self, Nat.reduceLT, Nat.reduceLeDiff, List.flatMap_cons, List.flatMap_nil, List.all_cons, List.all_nil, List.isEmpty_nil, List.isEmpty_cons, Int.reduceAdd, Int.reduceMul, Int.reduceSub, Int.reduceNeg, Int.reduceDiv, Int.reduceMod, forall_const, e1, e5, e6, e7]
          exact ⟨_, by omega, i + 1, N, rfl, by omega, hf.1, hf.2, rfl⟩
      · have hi64 : i = 64 := by omega
        subst hi64
        have hne : bytesV (pk K w 64) ≠ [] := by intro h; have := congrArg List.length h; rw [bytes_len, hpl] at this; simp at this
        simp (maxSteps := 10000000) (disch := first | assumption | omega | (simp only [List.length_map, List.length_set, List.length_replicate, List.length_drop, List.length_take, List.length_append, List.length_cons, List.length_nil, bytes_len, strs_len] <;> omega) | with_reducible exact xor8_lt _ _ | with_reducible exact or8_lt _ _ | with_reducible exact toNat_lt8 _ | with_reducible exact rowP_ok _ _ _ _ _ | with_reducible exact rowOK_nil _ _ | (apply rowOK_put <;> first | assumption | exact rowP_ok _ _ _ _ _ | omega)) only [↓rsd, rsu, ↓reduceIte, Option.map_some, Option.map_none, Option.getD_some, Option.getD_none, List.map_cons, List.map_nil, List.cons_append, List.nil_append, List.append_nil, List.getD_cons_zero, List.getD_cons_succ, List.length_cons, List.length_nil, List.getElem?_cons_zero, List.getElem?_cons_succ, List.set_cons_zero, List.set_cons_succ, Nat.reduceEqDiff, Nat.reduceBEq, Nat.reduceAdd, Nat.reduceMul, Nat.reduceSub, Int.reduceToNat, List.length_set, List.length_replicate, List.length_map, eq_self, Nat.reduceLT, Nat.reduceLeDiff, List.flatMap_cons, List.flatMap_nil, List.all_cons, List.all_nil, List.isEmpty_nil, List.isEmpty_cons, Int.reduceAdd, Int.reduceMul, Int.reduceSub, Int.reduceNeg, Int.reduceDiv, Int.reduceMod, forall_const, e1, e5, e6, e7]
        rw [ownV_ne _ hne]
/-- The code, by the specification. -/
def macR (key text : List UInt8) : List UInt8 := shaR (pk (keyR key) 92 64 ++ shaR (pk (keyR key) 54 64 ++ text))
theorem pk_ne (k : List UInt8) (w : Nat) : pk k w 64 ≠ [] := by intro h; have := congrArg List.length h; rw [pk_len] at this; simp at this
theorem rmac_ok (hE : EOK G E) (hR : G 0 = some (KL.map n32)) (key text : List UInt8) (hk : key.length ≤ 900000) (ht : text.length ≤ 900000) : valP (cfW G T E) 23 [.str key, .str text] = some (.ret (.str (macR key text))) := by
  have h1 := pk_len (keyR key) 54 64
  have h2 := pk_len (keyR key) 92 64
  have h3 := shaR_len (pk (keyR key) 54 64 ++ text)
  have h4 := shaR_len (pk (keyR key) 92 64 ++ shaR (pk (keyR key) 54 64 ++ text))
  refine vrun 7 (m := m23) hE rfl rfl rfl rfl ?_
  simp (maxSteps := 10000000) (disch := first | assumption | omega | (simp only [List.length_map, List.length_set, List.length_replicate, List.length_drop, List.length_take, List.length_append, List.length_cons, List.length_nil, bytes_len, strs_len] <;> omega) | with_reducible exact xor8_lt _ _ | with_reducible exact or8_lt _ _ | with_reducible exact toNat_lt8 _ | with_reducible exact rowP_ok _ _ _ _ _ | with_reducible exact rowOK_nil _ _ | (apply rowOK_put <;> first | assumption | exact rowP_ok _ _ _ _ _ | omega)) only [↓rsd, rsu, ↓reduceIte, Option.map_some, Option.map_none, Option.getD_some, Option.getD_none, List.map_cons, List.map_nil, List.cons_append, List.nil_append, List.append_nil, List.getD_cons_zero, List.getD_cons_succ, List.length_cons, List.length_nil, List.getElem?_cons_zero, List.getElem?_cons_succ, List.set_cons_zero, List.set_cons_succ, Nat.reduceEqDiff, Nat.reduceBEq, Nat.reduceAdd, Nat.reduceMul, Nat.reduceSub, Int.reduceToNat, List.length_set, List.length_replicate, List.length_map, eq_self, Nat.reduceLT, Nat.reduceLeDiff, List.flatMap_cons, List.flatMap_nil, List.all_cons, List.all_nil, List.isEmpty_nil, List.isEmpty_cons, Int.reduceAdd, Int.reduceMul, Int.reduceSub, Int.reduceNeg, Int.reduceDiv, Int.reduceMod, forall_const, m23, padkey_ok hE hR, rsum_ok hE hR, bytes32_ok hE]
  rw [macR]

/-- The key, padded and combined. -/
def mk (k : List UInt8) (w : Nat) : Nat → List UInt8
  | 0 => putL 0 (k.take 64) (List.replicate 64 0)
  | i + 1 => (mk k w i).set i (UInt8.ofNat (xor8 (((mk k w i).getD i 0).toNat) w))
theorem mk_len (k : List UInt8) (w i : Nat) : (mk k w i).length = 64 := by
  induction i with
  | zero => rw [mk, putL_len]; simp; simp; omega
  | succ i ih => rw [mk, List.length_set, ih]
theorem mac1_ok (hE : EOK G E) (w : Nat) (key : List UInt8) : valP (cfW G T E) 51 [.int .u8 (w : Nat), .imp [.str key] 0] = some (.ret (.str (mk key w 64))) := by
  refine vrun 6 (m := m51) hE rfl rfl rfl rfl ?_
  simp (maxSteps := 10000000) (disch := first | assumption | omega | (simp only [List.length_map, List.length_set, List.length_replicate, List.length_drop, List.length_take, List.length_append, List.length_cons, List.length_nil, bytes_len, strs_len] <;> omega) | with_reducible exact xor8_lt _ _ | with_reducible exact or8_lt _ _ | with_reducible exact toNat_lt8 _ | with_reducible exact rowP_ok _ _ _ _ _ | with_reducible exact rowOK_nil _ _ | (apply rowOK_put <;> first | assumption | exact rowP_ok _ _ _ _ _ | omega)) only [↓rsd, rsu, ↓reduceIte, Option.map_some, Option.map_none, Option.getD_some, Option.getD_none, List.map_cons, List.map_nil, List.cons_append, List.nil_append, List.append_nil, List.getD_cons_zero, List.getD_cons_succ, List.length_cons, List.length_nil, List.getElem?_cons_zero, List.getElem?_cons_succ, List.set_cons_zero, List.set_cons_succ, Nat.reduceEqDiff, Nat.reduceBEq, Nat.reduceAdd, Nat.reduceMul, Nat.reduceSub, Int.reduceToNat, List.length_set, List.length_replicate, List.length_map, eq_self, Nat.reduceLT, Nat.reduceLeDiff, List.flatMap_cons, List.flatMap_nil, List.all_cons, List.all_nil, List.isEmpty_nil, List.isEmpty_cons, Int.reduceAdd, Int.reduceMul, Int.reduceSub, Int.reduceNeg, Int.reduceDiv, Int.reduceMod, forall_const, m51, splice_map]
  have hm0 : putL 0 (key.take 64) (List.replicate 64 (0 : UInt8)) = mk key w 0 := rfl
  rw [hm0]
  refine go_loop2 6 (fun c s => ∃ i : Nat, c = 64 - i ∧ i ≤ 64 ∧ s.N = 1 ∧ s.e 0 = .int .u8 (w : Nat) ∧ s.e 4 = .ptr 0 0 ∧ s.e 9 = .int .i64 i ∧ s.o 0 = .box ((mk key w i).map b8)) 64 ?_ ?_
  · refine ⟨0, rfl, by omega, rfl, ?_⟩
    simp (maxSteps := 10000000) (disch := first | assumption | omega | (simp only [List.length_map, List.length_set, List.length_replicate, List.length_drop, List.length_take, List.length_append, List.length_cons, List.length_nil, bytes_len, strs_len] <;> omega) | with_reducible exact xor8_lt _ _ | with_reducible exact or8_lt _ _ | with_reducible exact toNat_lt8 _ | with_reducible exact rowP_ok _ _ _ _ _ | with_reducible exact rowOK_nil _ _ | (apply rowOK_put <;> first | assumption | exact rowP_ok _ _ _ _ _ | omega)) only [↓rsd, rsu, ↓reduceIte, Option.map_some, Option.map_none, Option.getD_some, Option.getD_none, List.map_cons, List.map_nil, List.cons_append, List.nil_append, List.append_nil, List.getD_cons_zero, List.getD_cons_succ, List.length_cons, List.length_nil, List.getElem?_cons_zero, List.getElem?_cons_succ, List.set_cons_zero, List.set_cons_succ, Nat.reduceEqDiff, Nat.reduceBEq, Nat.reduceAdd, Nat.reduceMul, Nat.reduceSub, Int.reduceToNat, List.length_set, List.length_replicate, List.length_map, eq_self, Nat.reduceLT, Nat.reduceLeDiff, List.flatMap_cons, List.flatMap_nil, List.all_cons, List.all_nil, List.isEmpty_nil, List.isEmpty_cons, Int.reduceAdd, Int.reduceMul, Int.reduceSub, Int.reduceNeg, Int.reduceDiv, Int.reduceMod, forall_const]
    rfl
  · rintro c e o N ⟨i, hc, hi, rfl, e0, e4, e9, o0⟩
    simp only at e0 e4 e9 o0
    have hml := mk_len key w i
    by_cases hlt : i < 64
    · simp (maxSteps := 10000000) (disch := first | assumption | omega | (simp only [List.length_map, List.length_set, List.length_replicate, List.length_drop, List.length_take, List.length_append, List.length_cons, List.length_nil, bytes_len, strs_len] <;> omega) | with_reducible exact xor8_lt _ _ | with_reducible exact or8_lt _ _ | with_reducible exact toNat_lt8 _ | with_reducible exact rowP_ok _ _ _ _ _ | with_reducible exact rowOK_nil _ _ | (apply rowOK_put <;> first | assumption | exact rowP_ok _ _ _ _ _ | omega)) only [↓rsd, rsu, ↓reduceIte, Option.map_some, Option.map_none, Option.getD_some, Option.getD_none, List.map_cons, List.map_nil, List.cons_append, List.nil_append, List.append_nil, List.getD_cons_zero, List.getD_cons_succ, List.length_cons, List.length_nil, List.getElem?_cons_zero, List.getElem?_cons_succ, List.set_cons_zero, List.set_cons_succ, Nat.reduceEqDiff, Nat.reduceBEq, Nat.reduceAdd, Nat.reduceMul, Nat.reduceSub, Int.reduceToNat, List.length_set, List.length_replicate, List.length_map, eq_self, Nat.reduceLT, Nat.reduceLeDiff, List.flatMap_cons, List.flatMap_nil, List.all_cons, List.all_nil, List.isEmpty_nil, List.isEmpty_cons, Int.reduceAdd, Int.reduceMul, Int.reduceSub, Int.reduceNeg, Int.reduceDiv, Int.reduceMod, forall_const, e0, e4, e9, o0]
      exact ⟨_, by omega, i + 1, rfl, by omega, rfl, rfl⟩
    · have hi64 : i = 64 := by omega
      subst hi64
      simp (maxSteps := 10000000) (disch := first | assumption | omega | (simp only [List.length_map, List.length_set, List.length_replicate, List.length_drop, List.length_take, List.length_append, List.length_cons, List.length_nil, bytes_len, strs_len] <;> omega) | with_reducible exact xor8_lt _ _ | with_reducible exact or8_lt _ _ | with_reducible exact toNat_lt8 _ | with_reducible exact rowP_ok _ _ _ _ _ | with_reducible exact rowOK_nil _ _ | (apply rowOK_put <;> first | assumption | exact rowP_ok _ _ _ _ _ | omega)) only [↓rsd, rsu, ↓reduceIte, Option.map_some, Option.map_none, Option.getD_some, Option.getD_none, List.map_cons, List.map_nil, List.cons_append, List.nil_append, List.append_nil, List.getD_cons_zero, List.getD_cons_succ, List.length_cons, List.length_nil, List.getElem?_cons_zero, List.getElem?_cons_succ, List.set_cons_zero, List.set_cons_succ, Nat.reduceEqDiff, Nat.reduceBEq, Nat.reduceAdd, Nat.reduceMul, Nat.reduceSub, Int.reduceToNat, List.length_set, List.length_replicate, List.length_map, eq_self, Nat.reduceLT, Nat.reduceLeDiff, List.flatMap_cons, List.flatMap_nil, List.all_cons, List.all_nil, List.isEmpty_nil, List.isEmpty_cons, Int.reduceAdd, Int.reduceMul, Int.reduceSub, Int.reduceNeg, Int.reduceDiv, Int.reduceMod, forall_const, e0, e4, e9, o0]
def keyH (key : List UInt8) : List UInt8 := if 64 < key.length then shaH key else key
/-- The code, by package hash. -/
def macH (key text : List UInt8) : List UInt8 := endT (addT (addT s0 (mk (keyH key) 92 64)) (endT (addT (addT s0 (mk (keyH key) 54 64)) text)))
theorem mac_ok (hE : EOK G E) (key text : List UInt8) (hk : key.length ≤ 900000) (ht : text.length ≤ 900000) : valP (cfW G T E) 22 [.str key, .str text] = some (.ret (.str (macH key text))) := by
  have w0 := wf0
  refine vrun 9 (m := m22) hE rfl rfl rfl rfl ?_
  have keyf : ∀ K : List UInt8, keyH key = K → (WF (addT s0 (mk K 54 64)) ∧ WF (addT s0 (mk K 92 64)) ∧ (addT (addT s0 (mk K 54 64)) text).2.2 = 64 + text.length ∧ WF (addT (addT s0 (mk K 54 64)) text) ∧
      (endT (addT (addT s0 (mk K 54 64)) text)).length = 32 ∧ WF (addT (addT s0 (mk K 92 64)) (endT (addT (addT s0 (mk K 54 64)) text))) ∧ (addT (addT s0 (mk K 92 64)) (endT (addT (addT s0 (mk K 54 64)) text))).2.2 = 96 ∧
      (endT (addT (addT s0 (mk K 92 64)) (endT (addT (addT s0 (mk K 54 64)) text)))).length = 32 ∧ endT (addT (addT s0 (mk K 92 64)) (endT (addT (addT s0 (mk K 54 64)) text))) = macH key text) := by
    intro K hK
    have a1 : (addT s0 (mk K 54 64)).2.2 = 64 := by rw [addT_n _ _ (by rw [mk_len]; decide), mk_len]; rfl
    have a2 : (addT s0 (mk K 92 64)).2.2 = 64 := by rw [addT_n _ _ (by rw [mk_len]; decide), mk_len]; rfl
    have e1 := endT_len (addT (addT s0 (mk K 54 64)) text)
    refine ⟨wf_add wf0 _, wf_add wf0 _, ?_, wf_add (wf_add wf0 _) _, e1, wf_add (wf_add wf0 _) _, ?_, endT_len _, ?_⟩
    · rw [addT_n _ _ (by omega), a1]
    · rw [addT_n _ _ (by omega), a2, e1]
    · rw [macH, hK]
  rcases Decidable.em (64 < key.length) with hlong | hlong
  case' inl =>
    have hkr : keyH key = shaH key := by unfold keyH; rw [if_pos hlong]
    obtain ⟨c1, c2, c3, c4, c5, c6, c7, c8, c9⟩ := keyf _ hkr
    have hsl := shaH_len key
    simp (maxSteps := 10000000) (disch := first | assumption | omega | (simp only [List.length_map, List.length_set, List.length_replicate, List.length_drop, List.length_take, List.length_append, List.length_cons, List.length_nil, bytes_len, strs_len] <;> omega) | with_reducible exact xor8_lt _ _ | with_reducible exact or8_lt _ _ | with_reducible exact toNat_lt8 _ | with_reducible exact rowP_ok _ _ _ _ _ | with_reducible exact rowOK_nil _ _ | (apply rowOK_put <;> first | assumption | exact rowP_ok _ _ _ _ _ | omega)) only [↓rsd, rsu, ↓reduceIte, Option.map_some, Option.map_none, Option.getD_some, Option.getD_none, List.map_cons, List.map_nil, List.cons_append, List.nil_append, List.append_nil, List.getD_cons_zero, List.getD_cons_succ, List.length_cons, List.length_nil, List.getElem?_cons_zero, List.getElem?_cons_succ, List.set_cons_zero, List.set_cons_succ, Nat.reduceEqDiff, Nat.reduceBEq, Nat.reduceAdd, Nat.reduceMul, Nat.reduceSub, Int.reduceToNat, List.length_set, List.length_replicate, List.length_map, eq_self, Nat.reduceLT, Nat.reduceLeDiff, List.flatMap_cons, List.flatMap_nil, List.all_cons, List.all_nil, List.isEmpty_nil, List.isEmpty_cons, Int.reduceAdd, Int.reduceMul, Int.reduceSub, Int.reduceNeg, Int.reduceDiv, Int.reduceMod, forall_const, m22, sum_ok hE, begin_okT hE, mac1_ok hE, scT, frT, fmT, add_okT hE, ssum_okT hE]
  case' inr =>
    have hkr : keyH key = key := by unfold keyH; rw [if_neg hlong]
    obtain ⟨c1, c2, c3, c4, c5, c6, c7, c8, c9⟩ := keyf _ hkr
    simp (maxSteps := 10000000) (disch := first | assumption | omega | (simp only [List.length_map, List.length_set, List.length_replicate, List.length_drop, List.length_take, List.length_append, List.length_cons, List.length_nil, bytes_len, strs_len] <;> omega) | with_reducible exact xor8_lt _ _ | with_reducible exact or8_lt _ _ | with_reducible exact toNat_lt8 _ | with_reducible exact rowP_ok _ _ _ _ _ | with_reducible exact rowOK_nil _ _ | (apply rowOK_put <;> first | assumption | exact rowP_ok _ _ _ _ _ | omega)) only [↓rsd, rsu, ↓reduceIte, Option.map_some, Option.map_none, Option.getD_some, Option.getD_none, List.map_cons, List.map_nil, List.cons_append, List.nil_append, List.append_nil, List.getD_cons_zero, List.getD_cons_succ, List.length_cons, List.length_nil, List.getElem?_cons_zero, List.getElem?_cons_succ, List.set_cons_zero, List.set_cons_succ, Nat.reduceEqDiff, Nat.reduceBEq, Nat.reduceAdd, Nat.reduceMul, Nat.reduceSub, Int.reduceToNat, List.length_set, List.length_replicate, List.length_map, eq_self, Nat.reduceLT, Nat.reduceLeDiff, List.flatMap_cons, List.flatMap_nil, List.all_cons, List.all_nil, List.isEmpty_nil, List.isEmpty_cons, Int.reduceAdd, Int.reduceMul, Int.reduceSub, Int.reduceNeg, Int.reduceDiv, Int.reduceMod, forall_const, m22, sum_ok hE, begin_okT hE, mac1_ok hE, scT, frT, fmT, add_okT hE, ssum_okT hE]
  all_goals
    rw [c9]
end Go.Proofs.YtoccgkgdhobmfaaDoor.Am.Ru

set_option maxRecDepth 100000
set_option linter.unusedSimpArgs false
set_option linter.unusedVariables false
namespace Go.Proofs.YtoccgkgdhobmfaaDoor.Am.Ru
open Go
variable {G : Nat → Option (List V)} {E : Nat → Option (CallFn → List V → Hp → Nat → Option Out)}

/-- The stream that Of makes. -/
def ofS (tg : Nat) (parts : List (List UInt8)) : Strm := (parts.map strB).foldl addT (addT s0 [UInt8.ofNat tg])
theorem wf_fold (l : List (List UInt8)) : ∀ {s : Strm}, WF s → WF (l.foldl addT s) := by
  induction l with
  | nil => intro s h; exact h
  | cons a l ih => intro s h; exact ih (wf_add h a)
theorem n_fold (l : List (List UInt8)) : ∀ {s : Strm}, s.2.2 + l.flatten.length < 18446744073709551616 → (l.foldl addT s).2.2 = s.2.2 + l.flatten.length := by
  induction l with
  | nil => intro s _; simp
  | cons a l ih =>
    intro s h
    simp only [List.flatten_cons, List.length_append] at h
    have ha := addT_n s a (by omega)
    rw [List.foldl_cons, ih (by rw [ha]; omega), ha]
    simp; omega
def ofH (tag : Int) (parts : List (List UInt8)) : List UInt8 := (endT (ofS (tag % 256).toNat parts)).take 16
theorem hof_ok (hE : EOK G E) (tag : Int) (parts : List (List UInt8)) (hf : few parts) (h0 : -9223372036854775808 ≤ tag) (h1 : tag < 9223372036854775808) :
    valP (cfW G T E) 25 [.int .i64 tag, .sl 1 (strsV parts)] = some (.ret (.agg ((ofH tag parts).map b8))) := by
  have hw : IntKind.u8.wrap tag = (((tag % 256).toNat : Nat) : Int) := by rw [IntKind.wrap_u8]; omega
  have hw2 : (tag % 256).toNat < 256 := by omega
  unfold ofH
  generalize (tag % 256).toNat = tg at *
  have w0 := wf0
  have wz := wfz
  have w1 := wf_add wf0 [UInt8.ofNat tg]
  have hpl := hf.1
  refine vrun 9 (m := m25) hE rfl rfl rfl rfl ?_
  simp (maxSteps := 10000000) (disch := first | assumption | omega | (simp only [List.length_map, List.length_set, List.length_replicate, List.length_drop, List.length_take, List.length_append, List.length_cons, List.length_nil, bytes_len, strs_len] <;> omega) | with_reducible exact xor8_lt _ _ | with_reducible exact or8_lt _ _ | with_reducible exact toNat_lt8 _ | with_reducible exact rowP_ok _ _ _ _ _ | with_reducible exact rowOK_nil _ _ | (apply rowOK_put <;> first | assumption | exact rowP_ok _ _ _ _ _ | omega)) only [↓rsd, rsu, ↓reduceIte, Option.map_some, Option.map_none, Option.getD_some, Option.getD_none, List.map_cons, List.map_nil, List.cons_append, List.nil_append, List.append_nil, List.getD_cons_zero, List.getD_cons_succ, List.length_cons, List.length_nil, List.getElem?_cons_zero, List.getElem?_cons_succ, List.set_cons_zero, List.set_cons_succ, Nat.reduceEqDiff, Nat.reduceBEq, Nat.reduceAdd, Nat.reduceMul, Nat.reduceSub, Int.reduceToNat, List.length_set, List.length_replicate, List.length_map, eq_self, Nat.reduceLT, Nat.reduceLeDiff, List.flatMap_cons, List.flatMap_nil, List.all_cons, List.all_nil, List.isEmpty_nil, List.isEmpty_cons, Int.reduceAdd, Int.reduceMul, Int.reduceSub, Int.reduceNeg, Int.reduceDiv, Int.reduceMod, forall_const, m25, hw, begin_okT hE, scT, frT, fmT, add_okT hE, zT, storeT, allT]
  refine go_loop2 9 (fun c s => ∃ i : Nat, c = parts.length - i ∧ i ≤ parts.length ∧ s.N = 3 ∧ s.e 4 = .ptr 0 0 ∧ s.e 5 = .ptr 2 0 ∧ s.e 15 = .sl 1 (strsV parts) ∧ s.e 16 = .int .i64 parts.length ∧ s.e 17 = .int .i64 i ∧
    s.o 0 = .box ((List.replicate 16 (0 : UInt8)).map b8) ∧ s.o 2 = .box (strmT (ofS tg (parts.take i)))) parts.length ?_ ?_
  · refine ⟨0, rfl, by omega, rfl, ?_⟩
    simp (maxSteps := 10000000) (disch := first | assumption | omega | (simp only [List.length_map, List.length_set, List.length_replicate, List.length_drop, List.length_take, List.length_append, List.length_cons, List.length_nil, bytes_len, strs_len] <;> omega) | with_reducible exact xor8_lt _ _ | with_reducible exact or8_lt _ _ | with_reducible exact toNat_lt8 _ | with_reducible exact rowP_ok _ _ _ _ _ | with_reducible exact rowOK_nil _ _ | (apply rowOK_put <;> first | assumption | exact rowP_ok _ _ _ _ _ | omega)) only [↓rsd, rsu, ↓reduceIte, Option.map_some, Option.map_none, Option.getD_some, Option.getD_none, List.map_cons, List.map_nil, List.cons_append, List.nil_append, List.append_nil, List.getD_cons_zero, List.getD_cons_succ, List.length_cons, List.length_nil, List.getElem?_cons_zero, List.getElem?_cons_succ, List.set_cons_zero, List.set_cons_succ, Nat.reduceEqDiff, Nat.reduceBEq, Nat.reduceAdd, Nat.reduceMul, Nat.reduceSub, Int.reduceToNat, List.length_set, List.length_replicate, List.length_map, eq_self, Nat.reduceLT, Nat.reduceLeDiff, List.flatMap_cons, List.flatMap_nil, List.all_cons, List.all_nil, List.isEmpty_nil, List.isEmpty_cons, Int.reduceAdd, Int.reduceMul, Int.reduceSub, Int.reduceNeg, Int.reduceDiv, Int.reduceMod, forall_const]
    exact ⟨rfl, rfl⟩
  · rintro c e o N ⟨i, hc, hi, rfl, e4, e5, e15, e16, e17, o0, o2⟩
    simp only at e4 e5 e15 e16 e17 o0 o2
    have hwf : WF (ofS tg (parts.take i)) := wf_fold _ (wf_add wf0 _)
    by_cases hlt : i < parts.length
    · have hg := few_get hf i
      have hstep : addT (ofS tg (parts.take i)) (strB (parts.getD i [])) = ofS tg (parts.take (i + 1)) := by
        unfold ofS; rw [List.take_add_one, List.getElem?_eq_getElem hlt, List.map_append, List.foldl_append]; simp [List.getD, hlt]
      have hwf2 := wf_add hwf (strB (parts.getD i []))
      simp (maxSteps := 10000000) (disch := first | assumption | omega | (simp only [List.length_map, List.length_set, List.length_replicate, List.length_drop, List.length_take, List.length_append, List.length_cons, List.length_nil, bytes_len, strs_len] <;> omega) | with_reducible exact xor8_lt _ _ | with_reducible exact or8_lt _ _ | with_reducible exact toNat_lt8 _ | with_reducible exact rowP_ok _ _ _ _ _ | with_reducible exact rowOK_nil _ _ | (apply rowOK_put <;> first | assumption | exact rowP_ok _ _ _ _ _ | omega)) only [↓rsd, rsu, ↓reduceIte, Option.map_some, Option.map_none, Option.getD_some, Option.getD_none, List.map_cons, List.map_nil, List.cons_append, List.nil_append, List.append_nil, List.getD_cons_zero, List.getD_cons_succ, List.length_cons, List.length_nil, List.getElem?_cons_zero, List.getElem?_cons_succ, List.set_cons_zero, List.set_cons_succ, Nat.reduceEqDiff, Nat.reduceBEq, Nat.reduceAdd, Nat.reduceMul, Nat.reduceSub, Int.reduceToNat, List.length_set, List.length_replicate, List.length_map, eq_self, Nat.reduceLT, Nat.reduceLeDiff, List.flatMap_cons, List.flatMap_nil, List.all_cons, List.all_nil, List.isEmpty_nil, List.isEmpty_cons, Int.reduceAdd, Int.reduceMul, Int.reduceSub, Int.reduceNeg, Int.reduceDiv, Int.reduceMod, forall_const, e4, e5, e15, e16, e17, o0, o2, scT, frT, fmT, add_okT hE, storeT, allT, cutT, wbytes_ok hE]
      refine ⟨_, by omega, i + 1, rfl, by omega, rfl, ?_⟩
      rw [hstep]
    · have hip : i = parts.length := by omega
      subst hip
      rw [List.take_length] at *
      have hn : (ofS tg parts).2.2 < 9000000000000000000 := by
        have h := flat_len hf parts.length (Nat.le_refl _)
        rw [List.take_length] at h
        have a1 : (addT s0 [UInt8.ofNat tg]).2.2 = 1 := addT_n _ _ (by show (0 + 1 : Nat) < 18446744073709551616; decide)
        unfold ofS
        rw [n_fold _ (by rw [a1]; omega), a1]; omega
      have hel := endT_len (ofS tg parts)
      simp (maxSteps := 10000000) (disch := first | assumption | omega | (simp only [List.length_map, List.length_set, List.length_replicate, List.length_drop, List.length_take, List.length_append, List.length_cons, List.length_nil, bytes_len, strs_len] <;> omega) | with_reducible exact xor8_lt _ _ | with_reducible exact or8_lt _ _ | with_reducible exact toNat_lt8 _ | with_reducible exact rowP_ok _ _ _ _ _ | with_reducible exact rowOK_nil _ _ | (apply rowOK_put <;> first | assumption | exact rowP_ok _ _ _ _ _ | omega)) only [↓rsd, rsu, ↓reduceIte, Option.map_some, Option.map_none, Option.getD_some, Option.getD_none, List.map_cons, List.map_nil, List.cons_append, List.nil_append, List.append_nil, List.getD_cons_zero, List.getD_cons_succ, List.length_cons, List.length_nil, List.getElem?_cons_zero, List.getElem?_cons_succ, List.set_cons_zero, List.set_cons_succ, Nat.reduceEqDiff, Nat.reduceBEq, Nat.reduceAdd, Nat.reduceMul, Nat.reduceSub, Int.reduceToNat, List.length_set, List.length_replicate, List.length_map, eq_self, Nat.reduceLT, Nat.reduceLeDiff, List.flatMap_cons, List.flatMap_nil, List.all_cons, List.all_nil, List.isEmpty_nil, List.isEmpty_cons, Int.reduceAdd, Int.reduceMul, Int.reduceSub, Int.reduceNeg, Int.reduceDiv, Int.reduceMod, forall_const, e4, e5, e15, e16, e17, o0, o2, scT, frT, fmT, ssum_okT hE, storeT, allT, cutT, cut_map, hn]
def dif (a b : List UInt8) : Nat → Nat
  | 0 => 0
  | i + 1 => or8 (dif a b i) (xor8 (a.getD i 0).toNat (b.getD i 0).toNat)
theorem equal_ok (hE : EOK G E) (a b : List UInt8) (ha : a.length < 9223372036854775808) : valP (cfW G T E) 28 [.str a, .str b] = some (.ret (.bool (if a.length = b.length then decide (dif a b a.length = 0) else false))) := by
  refine vrun 7 (m := m28) hE rfl rfl rfl rfl ?_
  by_cases hl : a.length = b.length
  · simp (maxSteps := 10000000) (disch := first | assumption | omega | (simp only [List.length_map, List.length_set, List.length_replicate, List.length_drop, List.length_take, List.length_append, List.length_cons, List.length_nil, bytes_len, strs_len] <;> omega) | with_reducible exact xor8_lt _ _ | with_reducible exact or8_lt _ _ | with_reducible exact toNat_lt8 _ | with_reducible exact rowP_ok _ _ _ _ _ | with_reducible exact rowOK_nil _ _ | (apply rowOK_put <;> first | assumption | exact rowP_ok _ _ _ _ _ | omega)) only [↓rsd, rsu, ↓reduceIte, Option.map_some, Option.map_none, Option.getD_some, Option.getD_none, List.map_cons, List.map_nil, List.cons_append, List.nil_append, List.append_nil, List.getD_cons_zero, List.getD_cons_succ, List.length_cons, List.length_nil, List.getElem?_cons_zero, List.getElem?_cons_succ, List.set_cons_zero, List.set_cons_succ, Nat.reduceEqDiff, Nat.reduceBEq, Nat.reduceAdd, Nat.reduceMul, Nat.reduceSub, Int.reduceToNat, List.length_set, List.length_replicate, List.length_map, eq_self, Nat.reduceLT, Nat.reduceLeDiff, List.flatMap_cons, List.flatMap_nil, List.all_cons, List.all_nil, List.isEmpty_nil, List.isEmpty_cons, Int.reduceAdd, Int.reduceMul, Int.reduceSub, Int.reduceNeg, Int.reduceDiv, Int.reduceMod, forall_const, m28]
    refine go_loop2 7 (fun c s => ∃ i : Nat, c = a.length - i ∧ i ≤ a.length ∧ s.N = 0 ∧ s.e 0 = .str a ∧ s.e 1 = .str b ∧ s.e 5 = .int .u8 (dif a b i : Nat) ∧ s.e 13 = .int .i64 a.length ∧ s.e 14 = .int .i64 i) a.length ?_ ?_
    · refine ⟨0, rfl, by omega, rfl, ?_⟩
      simp (maxSteps := 10000000) (disch := first | assumption | omega | (simp only [List.length_map, List.length_set, List.length_replicate, List.length_drop, List.length_take, List.length_append, List.length_cons, List.length_nil, bytes_len, strs_len] <;> omega) | with_reducible exact xor8_lt _ _ | with_reducible exact or8_lt _ _ | with_reducible exact toNat_lt8 _ | with_reducible exact rowP_ok _ _ _ _ _ | with_reducible exact rowOK_nil _ _ | (apply rowOK_put <;> first | assumption | exact rowP_ok _ _ _ _ _ | omega)) only [↓rsd, rsu, ↓reduceIte, Option.map_some, Option.map_none, Option.getD_some, Option.getD_none, List.map_cons, List.map_nil, List.cons_append, List.nil_append, List.append_nil, List.getD_cons_zero, List.getD_cons_succ, List.length_cons, List.length_nil, List.getElem?_cons_zero, List.getElem?_cons_succ, List.set_cons_zero, List.set_cons_succ, Nat.reduceEqDiff, Nat.reduceBEq, Nat.reduceAdd, Nat.reduceMul, Nat.reduceSub, Int.reduceToNat, List.length_set, List.length_replicate, List.length_map, eq_self, Nat.reduceLT, Nat.reduceLeDiff, List.flatMap_cons, List.flatMap_nil, List.all_cons, List.all_nil, List.isEmpty_nil, List.isEmpty_cons, Int.reduceAdd, Int.reduceMul, Int.reduceSub, Int.reduceNeg, Int.reduceDiv, Int.reduceMod, forall_const]
      exact ⟨rfl, rfl⟩
    · rintro c e o N ⟨i, hc, hi, rfl, e0, e1, e5, e13, e14⟩
      simp only at e0 e1 e5 e13 e14
      by_cases hlt : i < a.length
      · simp (maxSteps := 10000000) (disch := first | assumption | omega | (simp only [List.length_map, List.length_set, List.length_replicate, List.length_drop, List.length_take, List.length_append, List.length_cons, List.length_nil, bytes_len, strs_len] <;> omega) | with_reducible exact xor8_lt _ _ | with_reducible exact or8_lt _ _ | with_reducible exact toNat_lt8 _ | with_reducible exact rowP_ok _ _ _ _ _ | with_reducible exact rowOK_nil _ _ | (apply rowOK_put <;> first | assumption | exact rowP_ok _ _ _ _ _ | omega)) only [↓rsd, rsu, ↓reduceIte, Option.map_some, Option.map_none, Option.getD_some, Option.getD_none, List.map_cons, List.map_nil, List.cons_append, List.nil_append, List.append_nil, List.getD_cons_zero, List.getD_cons_succ, List.length_cons, List.length_nil, List.getElem?_cons_zero, List.getElem?_cons_succ, List.set_cons_zero, List.set_cons_succ, Nat.reduceEqDiff, Nat.reduceBEq, Nat.reduceAdd, Nat.reduceMul, Nat.reduceSub, Int.reduceToNat, List.length_set, List.length_replicate, List.length_map, eq_self, Nat.reduceLT, Nat.reduceLeDiff, List.flatMap_cons, List.flatMap_nil, List.all_cons, List.all_nil, List.isEmpty_nil, List.isEmpty_cons, Int.reduceAdd, Int.reduceMul, Int.reduceSub, Int.reduceNeg, Int.reduceDiv, Int.reduceMod, forall_const, e0, e1, e5, e13, e14]
        exact ⟨_, by omega, i + 1, rfl, by omega, rfl, rfl⟩
      · have hip : i = a.length := by omega
        subst hip
        simp (maxSteps := 10000000) (disch := first | assumption | omega | (simp only [List.length_map, List.length_set, List.length_replicate, List.length_drop, List.length_take, List.length_append, List.length_cons, List.length_nil, bytes_len, strs_len] <;> omega) | with_reducible exact xor8_lt _ _ | with_reducible exact or8_lt _ _ | with_reducible exact toNat_lt8 _ | with_reducible exact rowP_ok _ _ _ _ _ | with_reducible exact rowOK_nil _ _ | (apply rowOK_put <;> first | assumption | exact rowP_ok _ _ _ _ _ | omega)) only [↓rsd, rsu, ↓reduceIte, Option.map_some, Option.map_none, Option.getD_some, Option.getD_none, List.map_cons, List.map_nil, List.cons_append, List.nil_append, List.append_nil, List.getD_cons_zero, List.getD_cons_succ, List.length_cons, List.length_nil, List.getElem?_cons_zero, List.getElem?_cons_succ, List.set_cons_zero, List.set_cons_succ, Nat.reduceEqDiff, Nat.reduceBEq, Nat.reduceAdd, Nat.reduceMul, Nat.reduceSub, Int.reduceToNat, List.length_set, List.length_replicate, List.length_map, eq_self, Nat.reduceLT, Nat.reduceLeDiff, List.flatMap_cons, List.flatMap_nil, List.all_cons, List.all_nil, List.isEmpty_nil, List.isEmpty_cons, Int.reduceAdd, Int.reduceMul, Int.reduceSub, Int.reduceNeg, Int.reduceDiv, Int.reduceMod, forall_const, e0, e1, e5, e13, e14, eql_d]
        have he : (decide ((dif a b a.length : Int) = ((0 : Nat) : Int))) = decide (dif a b a.length = 0) := decide_eq_decide.2 (by omega)
        rw [if_pos hl, he]
  · simp (maxSteps := 10000000) (disch := first | assumption | omega | (simp only [List.length_map, List.length_set, List.length_replicate, List.length_drop, List.length_take, List.length_append, List.length_cons, List.length_nil, bytes_len, strs_len] <;> omega) | with_reducible exact xor8_lt _ _ | with_reducible exact or8_lt _ _ | with_reducible exact toNat_lt8 _ | with_reducible exact rowP_ok _ _ _ _ _ | with_reducible exact rowOK_nil _ _ | (apply rowOK_put <;> first | assumption | exact rowP_ok _ _ _ _ _ | omega)) only [↓rsd, rsu, ↓reduceIte, Option.map_some, Option.map_none, Option.getD_some, Option.getD_none, List.map_cons, List.map_nil, List.cons_append, List.nil_append, List.append_nil, List.getD_cons_zero, List.getD_cons_succ, List.length_cons, List.length_nil, List.getElem?_cons_zero, List.getElem?_cons_succ, List.set_cons_zero, List.set_cons_succ, Nat.reduceEqDiff, Nat.reduceBEq, Nat.reduceAdd, Nat.reduceMul, Nat.reduceSub, Int.reduceToNat, List.length_set, List.length_replicate, List.length_map, eq_self, Nat.reduceLT, Nat.reduceLeDiff, List.flatMap_cons, List.flatMap_nil, List.all_cons, List.all_nil, List.isEmpty_nil, List.isEmpty_cons, Int.reduceAdd, Int.reduceMul, Int.reduceSub, Int.reduceNeg, Int.reduceDiv, Int.reduceMod, forall_const, m28]
    rw [if_neg hl]
/-- The hexadecimal digits. -/
def hexD : List UInt8 := [48, 49, 50, 51, 52, 53, 54, 55, 56, 57, 97, 98, 99, 100, 101, 102]
def hexL : List UInt8 → List UInt8
  | [] => []
  | x :: r => hexD.getD (x.toNat / 16) 0 :: hexD.getD (x.toNat % 16) 0 :: hexL r
theorem hexL_app (a b : List UInt8) : hexL (a ++ b) = hexL a ++ hexL b := by
  induction a with
  | nil => rfl
  | cons x a ih => simp [hexL, ih]
theorem hexL_len (a : List UInt8) : (hexL a).length = 2 * a.length := by
  induction a with
  | nil => rfl
  | cons x a ih => simp [hexL, ih]; omega
theorem hex_ok (hE : EOK G E) (s : List UInt8) (hs : s.length < 1000000) : valP (cfW G T E) 45 [.str s] = some (.ret (.str (hexL s))) := by
  have hd : hexD.length = 16 := rfl
  have hdd : [(48 : UInt8), 49, 50, 51, 52, 53, 54, 55, 56, 57, 97, 98, 99, 100, 101, 102] = hexD := rfl
  refine vrun 6 (m := m45) hE rfl rfl rfl rfl ?_
  simp (maxSteps := 10000000) (disch := first | assumption | omega | (simp only [List.length_map, List.length_set, List.length_replicate, List.length_drop, List.length_take, List.length_append, List.length_cons, List.length_nil, bytes_len, strs_len] <;> omega) | with_reducible exact xor8_lt _ _ | with_reducible exact or8_lt _ _ | with_reducible exact toNat_lt8 _ | with_reducible exact rowP_ok _ _ _ _ _ | with_reducible exact rowOK_nil _ _ | (apply rowOK_put <;> first | assumption | exact rowP_ok _ _ _ _ _ | omega)) only [↓rsd, rsu, ↓reduceIte, Option.map_some, Option.map_none, Option.getD_some, Option.getD_none, List.map_cons, List.map_nil, List.cons_append, List.nil_append, List.append_nil, List.getD_cons_zero, List.getD_cons_succ, List.length_cons, List.length_nil, List.getElem?_cons_zero, List.getElem?_cons_succ, List.set_cons_zero, List.set_cons_succ, Nat.reduceEqDiff, Nat.reduceBEq, Nat.reduceAdd, Nat.reduceMul, Nat.reduceSub, Int.reduceToNat, List.length_set, List.length_replicate, List.length_map, eq_self, Nat.reduceLT, Nat.reduceLeDiff, List.flatMap_cons, List.flatMap_nil, List.all_cons, List.all_nil, List.isEmpty_nil, List.isEmpty_cons, Int.reduceAdd, Int.reduceMul, Int.reduceSub, Int.reduceNeg, Int.reduceDiv, Int.reduceMod, forall_const, m45, hdd]
  refine go_loop2 6 (fun c q => ∃ i j : Nat, c = s.length - i ∧ i ≤ s.length ∧ RowOK q.o 1 j (bytesV (hexL (s.take i))) ∧ q.e 0 = .str s ∧ q.e 3 = .str hexD ∧ q.e 4 = rowV 1 j (bytesV (hexL (s.take i))) ∧ q.e 5 = .int .i64 i) s.length ?_ ?_
  · refine ⟨0, 1, rfl, by omega, .inl rfl, ?_⟩
    simp (maxSteps := 10000000) (disch := first | assumption | omega | (simp only [List.length_map, List.length_set, List.length_replicate, List.length_drop, List.length_take, List.length_append, List.length_cons, List.length_nil, bytes_len, strs_len] <;> omega) | with_reducible exact xor8_lt _ _ | with_reducible exact or8_lt _ _ | with_reducible exact toNat_lt8 _ | with_reducible exact rowP_ok _ _ _ _ _ | with_reducible exact rowOK_nil _ _ | (apply rowOK_put <;> first | assumption | exact rowP_ok _ _ _ _ _ | omega)) only [↓rsd, rsu, ↓reduceIte, Option.map_some, Option.map_none, Option.getD_some, Option.getD_none, List.map_cons, List.map_nil, List.cons_append, List.nil_append, List.append_nil, List.getD_cons_zero, List.getD_cons_succ, List.length_cons, List.length_nil, List.getElem?_cons_zero, List.getElem?_cons_succ, List.set_cons_zero, List.set_cons_succ, Nat.reduceEqDiff, Nat.reduceBEq, Nat.reduceAdd, Nat.reduceMul, Nat.reduceSub, Int.reduceToNat, List.length_set, List.length_replicate, List.length_map, eq_self, Nat.reduceLT, Nat.reduceLeDiff, List.flatMap_cons, List.flatMap_nil, List.all_cons, List.all_nil, List.isEmpty_nil, List.isEmpty_cons, Int.reduceAdd, Int.reduceMul, Int.reduceSub, Int.reduceNeg, Int.reduceDiv, Int.reduceMod, forall_const]
    exact ⟨rfl, rfl⟩
  · rintro c e o N ⟨i, j, hc, hi, hrow, e0, e3, e4, e5⟩
    simp only at hrow e0 e3 e4 e5
    by_cases hlt : i < s.length
    · have hx := toNat_lt8 (s.getD i 0)
      have hq : ∀ a : Nat, a < 256 → binV .quo (.int .u8 (a : Int)) (.int .u8 ((16 : Nat) : Int)) = some (.int .u8 ((a / 16 : Nat) : Int)) := by
        intro a ha
        simp only [binV, binI, if_true, IntKind.wrap_u8]
        rw [if_neg (by omega), Int.tdiv_eq_ediv_of_nonneg (by omega)]; congr 2; omega
      have hr : ∀ a : Nat, binV .rem (.int .u8 (a : Int)) (.int .u8 ((16 : Nat) : Int)) = some (.int .u8 ((a % 16 : Nat) : Int)) := by
        intro a
        simp only [binV, binI, if_true]
        rw [if_neg (by omega), Int.tmod_eq_emod_of_nonneg (by omega)]; rfl
      have hll : (hexL (s.take i)).length = 2 * i := by rw [hexL_len]; simp; omega
      have hsn : ∀ x y : UInt8, bytesV (hexL (s.take i)) ++ [[.int .u8 ((x.toNat : Nat) : Int)], [.int .u8 ((y.toNat : Nat) : Int)]] = bytesV (hexL (s.take i) ++ [x, y]) := by
        intro x y; simp [bytesV, byteV]
      simp (maxSteps := 10000000) (disch := first | assumption | omega | (simp only [List.length_map, List.length_set, List.length_replicate, List.length_drop, List.length_take, List.length_append, List.length_cons, List.length_nil, bytes_len, strs_len] <;> omega) | with_reducible exact xor8_lt _ _ | with_reducible exact or8_lt _ _ | with_reducible exact toNat_lt8 _ | with_reducible exact rowP_ok _ _ _ _ _ | with_reducible exact rowOK_nil _ _ | (apply rowOK_put <;> first | assumption | exact rowP_ok _ _ _ _ _ | omega)) only [↓rsd, rsu, ↓reduceIte, Option.map_some, Option.map_none, Option.getD_some, Option.getD_none, List.map_cons, List.map_nil, List.cons_append, List.nil_append, List.append_nil, List.getD_cons_zero, List.getD_cons_succ, List.length_cons, List.length_nil, List.getElem?_cons_zero, List.getElem?_cons_succ, List.set_cons_zero, List.set_cons_succ, Nat.reduceEqDiff, Nat.reduceBEq, Nat.reduceAdd, Nat.reduceMul, Nat.reduceSub, Int.reduceToNat, List.length_set, List.length_replicate, List.length_map, eq_self, Nat.reduceLT, Nat.reduceLeDiff, List.flatMap_cons, List.flatMap_nil, List.all_cons, List.all_nil, List.isEmpty_nil, List.isEmpty_cons, Int.reduceAdd, Int.reduceMul, Int.reduceSub, Int.reduceNeg, Int.reduceDiv, Int.reduceMod, forall_const, e0, e3, e4, e5, hq, hr, hsn]
      have hst : hexL (s.take (i + 1)) = hexL (s.take i) ++ [hexD.getD ((s.getD i 0).toNat / 16) 0, hexD.getD ((s.getD i 0).toNat % 16) 0] := by
        rw [take_succ_getD _ _ hlt, hexL_app]; rfl
      have hro := rowP_ok (o := o) 1 j N (bytesV (hexL (s.take i))) [[.int .u8 (((hexD.getD ((s.getD i 0).toNat / 16) 0).toNat : Nat) : Int)], [.int .u8 (((hexD.getD ((s.getD i 0).toNat % 16) 0).toNat : Nat) : Int)]]
      rw [hsn, ← hst] at hro
      exact ⟨_, by omega, i + 1, N, rfl, by omega, hro, by rw [hst], rfl⟩
    · have hip : i = s.length := by omega
      subst hip
      rw [List.take_length] at *
      simp (maxSteps := 10000000) (disch := first | assumption | omega | (simp only [List.length_map, List.length_set, List.length_replicate, List.length_drop, List.length_take, List.length_append, List.length_cons, List.length_nil, bytes_len, strs_len] <;> omega) | with_reducible exact xor8_lt _ _ | with_reducible exact or8_lt _ _ | with_reducible exact toNat_lt8 _ | with_reducible exact rowP_ok _ _ _ _ _ | with_reducible exact rowOK_nil _ _ | (apply rowOK_put <;> first | assumption | exact rowP_ok _ _ _ _ _ | omega)) only [↓rsd, rsu, ↓reduceIte, Option.map_some, Option.map_none, Option.getD_some, Option.getD_none, List.map_cons, List.map_nil, List.cons_append, List.nil_append, List.append_nil, List.getD_cons_zero, List.getD_cons_succ, List.length_cons, List.length_nil, List.getElem?_cons_zero, List.getElem?_cons_succ, List.set_cons_zero, List.set_cons_succ, Nat.reduceEqDiff, Nat.reduceBEq, Nat.reduceAdd, Nat.reduceMul, Nat.reduceSub, Int.reduceToNat, List.length_set, List.length_replicate, List.length_map, eq_self, Nat.reduceLT, Nat.reduceLeDiff, List.flatMap_cons, List.flatMap_nil, List.all_cons, List.all_nil, List.isEmpty_nil, List.isEmpty_cons, Int.reduceAdd, Int.reduceMul, Int.reduceSub, Int.reduceNeg, Int.reduceDiv, Int.reduceMod, forall_const, e0, e3, e4, e5]
end Go.Proofs.YtoccgkgdhobmfaaDoor.Am.Ru
