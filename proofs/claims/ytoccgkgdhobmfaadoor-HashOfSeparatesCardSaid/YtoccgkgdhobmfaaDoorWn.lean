/- The abstract machine and the contracts of the program, part Wn. -/
import Derived.Test.YtoccgkgdhobmfaaDoorWm
set_option maxRecDepth 100000
set_option linter.unusedSimpArgs false
set_option linter.unusedVariables false
namespace Go.Proofs.YtoccgkgdhobmfaaDoor.Am.Ru
open Go
variable {G : Nat → Option (List V)} {E : Nat → Option (CallFn → List V → Hp → Nat → Option Out)}

/-! ### The encoding of strings can be read back -/
def vl : List UInt8 → Nat
  | [] => 0
  | b :: r => b.toNat * 256 ^ r.length + vl r
theorem shr_pow (m k : Nat) : shr64u m (8 * k) = m / 256 ^ k := by
  unfold shr64u; rw [Nat.shiftRight_eq_div_pow, Nat.pow_mul]
theorem vl_wT (m : Nat) : ∀ k, vl (wT m 0 k) = m % 256 ^ k := by
  intro k
  induction k with
  | zero => rw [Nat.pow_zero, Nat.mod_one]; rfl
  | succ k ih =>
    have hx : xor8 (shr64u m (8 * k) % 256) 0 = shr64u m (8 * k) % 256 := xor8_0 _ (Nat.mod_lt _ (by decide))
    rw [wT, vl, ih, wT_len, hx, toNat_ofNat8 _ (Nat.mod_lt _ (by decide)), shr_pow, Nat.mod_pow_succ, Nat.mul_comm, Nat.add_comm]
theorem intB_inj {n n' : Nat} (hn : n < 9223372036854775808) (hn' : n' < 9223372036854775808) {r r' : List UInt8} (h : intB n ++ r = intB n' ++ r') : n = n' ∧ r = r' := by
  have hm : ∀ k : Nat, mag (k : Int) = k := by intro k; unfold mag; rw [if_neg (by omega)]; omega
  have hf : ∀ k : Nat, flip (k : Int) = 0 := by intro k; unfold flip; rw [if_neg (by omega)]
  unfold intB wInt at h
  rw [hm, hm, hf, hf, List.cons_append, List.cons_append] at h
  injection h with h1 h2
  have k1 := kw_le n 8
  have k2 := kw_le n' 8
  have e1 : xor8 ((128 + kw n 8) % 256) 0 = 128 + kw n 8 := by rw [xor8_0 _ (by omega)]; omega
  have e2 : xor8 ((128 + kw n' 8) % 256) 0 = 128 + kw n' 8 := by rw [xor8_0 _ (by omega)]; omega
  rw [e1, e2] at h1
  have h3 := congrArg UInt8.toNat h1
  rw [toNat_ofNat8 _ (by omega), toNat_ofNat8 _ (by omega)] at h3
  have hk : kw n 8 = kw n' 8 := by omega
  have h4 := List.append_inj h2 (by rw [wT_len, wT_len, hk])
  refine ⟨?_, h4.2⟩
  have h5 := congrArg vl h4.1
  rw [vl_wT, vl_wT, hk] at h5
  have t1 := kw_top n (by omega)
  have t2 := kw_top n' (by omega)
  rw [shr_pow] at t1 t2
  rw [hk] at t1
  have p1 : n < 256 ^ kw n' 8 := by
    rcases Nat.div_eq_zero_iff.1 t1 with h | h
    · exact absurd h (Nat.pos_iff_ne_zero.1 (Nat.pos_of_neZero _))
    · exact h
  have p2 : n' < 256 ^ kw n' 8 := by
    rcases Nat.div_eq_zero_iff.1 t2 with h | h
    · exact absurd h (Nat.pos_iff_ne_zero.1 (Nat.pos_of_neZero _))
    · exact h
  rw [Nat.mod_eq_of_lt p1, Nat.mod_eq_of_lt p2] at h5
  exact h5
theorem strB_inj {s s' r r' : List UInt8} (hs : s.length < 9223372036854775808) (hs' : s'.length < 9223372036854775808) (h : strB s ++ r = strB s' ++ r') : s = s' ∧ r = r' := by
  unfold strB at h
  rw [List.append_assoc, List.append_assoc] at h
  have h1 := intB_inj hs hs' h
  exact List.append_inj h1.2 h1.1
theorem strB_ne (s : List UInt8) : strB s ≠ [] := by unfold strB; simp [intB_ne]
theorem flat_inj : ∀ (a b : List (List UInt8)), (∀ s ∈ a, s.length < 9223372036854775808) → (∀ s ∈ b, s.length < 9223372036854775808) → (a.map strB).flatten = (b.map strB).flatten → a = b := by
  intro a
  induction a with
  | nil =>
    intro b _ _ h
    cases b with
    | nil => rfl
    | cons s b =>
      simp only [List.map_nil, List.flatten_nil, List.map_cons, List.flatten_cons] at h
      exact absurd (List.append_eq_nil_iff.1 h.symm).1 (strB_ne s)
  | cons x a ih =>
    intro b ha hb h
    cases b with
    | nil =>
      simp only [List.map_nil, List.flatten_nil, List.map_cons, List.flatten_cons] at h
      exact absurd (List.append_eq_nil_iff.1 h).1 (strB_ne x)
    | cons y b =>
      simp only [List.map_cons, List.flatten_cons] at h
      have h1 := strB_inj (ha x (by simp)) (hb y (by simp)) h
      rw [h1.1, ih b (fun s hs => ha s (by simp [hs])) (fun s hs => hb s (by simp [hs])) h1.2]
theorem input_inj {t t' : Nat} (ht : t < 256) (ht' : t' < 256) {a b : List (List UInt8)} (ha : few a) (hb : few b) (h : inputR t a = inputR t' b) : t = t' ∧ a = b := by
  unfold inputR at h
  injection h with h1 h2
  refine ⟨?_, flat_inj a b (fun s hs => by have := ha.2 s hs; omega) (fun s hs => by have := hb.2 s hs; omega) h2⟩
  have h3 := congrArg UInt8.toNat h1
  rwa [toNat_ofNat8 _ ht, toNat_ofNat8 _ ht'] at h3

set_option maxHeartbeats 8000000 in
theorem law_sep (hE : EOK G E) (t0 t1 : Nat) (a b : List (List UInt8)) (h0 : t0 < 256) (h1 : t1 < 256) (hal : a.length ≤ 9223372036854775807) (hbl : b.length ≤ 9223372036854775807) (has : ∀ s ∈ a, s.length ≤ 9223372036854775807) (hbs : ∀ s ∈ b, s.length ≤ 9223372036854775807) :
    valP (cfW G T E) 8 [.agg [.int .u8 (t0 : Nat), .int .u8 (t1 : Nat)], .sl 1 (strsV a), .sl 1 (strsV b)] = some (.ret (.bool true)) := by
  have hfa := few_ok hE a (by omega) (fun s h => by have := has s h; omega)
  have hfb := few_ok hE b (by omega) (fun s h => by have := hbs s h; omega)
  refine vrun 18 (m := m8) hE rfl rfl rfl rfl ?_
  by_cases hf : fewB a = true
  · by_cases hg : fewB b = true
    · rw [hf] at hfa
      rw [hg] at hfb
      have fa := few_of hf
      have fb := few_of hg
      have hal' := fa.1
      have hbl' := fb.1
      have hc3 : (t0 = t1 ∧ a.length = b.length) ∨ (t0 = t1 ∧ a.length ≠ b.length) ∨ t0 ≠ t1 := by omega
      rcases hc3 with ⟨h01, hlen⟩ | ⟨h01, hlen⟩ | h01
      case' inl =>
        have hsm : ∃ sm : Bool, (sm = true → t0 = t1 ∧ a.length = b.length) ∧ (sm = false → ¬ (t0 = t1 ∧ a = b)) ∧ sm = true := ⟨true, fun _ => ⟨h01, hlen⟩, (fun h => by cases h), rfl⟩
        simp (maxSteps := 10000000) (disch := first | assumption | omega | (simp only [List.length_map, List.length_set, List.length_replicate, List.length_drop, List.length_take, List.length_append, List.length_cons, List.length_nil, bytes_len, strs_len] <;> omega) | with_reducible exact xor8_lt _ _ | with_reducible exact or8_lt _ _ | with_reducible exact toNat_lt8 _ | with_reducible exact rowP_ok _ _ _ _ _ | with_reducible exact rowOK_nil _ _ | (apply rowOK_put <;> first | assumption | exact rowP_ok _ _ _ _ _ | omega)) only [↓rsd, rsu, ↓reduceIte, Option.map_some, Option.map_none, Option.getD_some, Option.getD_none, List.map_cons, List.map_nil, List.cons_append, List.nil_append, List.append_nil, List.getD_cons_zero, List.getD_cons_succ, List.length_cons, List.length_nil, List.getElem?_cons_zero, List.getElem?_cons_succ, List.set_cons_zero, List.set_cons_succ, Nat.reduceEqDiff, Nat.reduceBEq, Nat.reduceAdd, Nat.reduceMul, Nat.reduceSub, Int.reduceToNat, List.length_set, List.length_replicate, List.length_map, eq_self, Nat.reduceLT, Nat.reduceLeDiff, List.flatMap_cons, List.flatMap_nil, List.all_cons, List.all_nil, List.isEmpty_nil, List.isEmpty_cons, Int.reduceAdd, Int.reduceMul, Int.reduceSub, Int.reduceNeg, Int.reduceDiv, Int.reduceMod, forall_const, m8, san_ok hE, hfa, hfb]
      case' inr.inl =>
        have hsm : ∃ sm : Bool, (sm = true → t0 = t1 ∧ a.length = b.length) ∧ (sm = false → ¬ (t0 = t1 ∧ a = b)) ∧ sm = false := ⟨false, (fun h => by cases h), (fun _ h => hlen (by rw [h.2])), rfl⟩
        simp (maxSteps := 10000000) (disch := first | assumption | omega | (simp only [List.length_map, List.length_set, List.length_replicate, List.length_drop, List.length_take, List.length_append, List.length_cons, List.length_nil, bytes_len, strs_len] <;> omega) | with_reducible exact xor8_lt _ _ | with_reducible exact or8_lt _ _ | with_reducible exact toNat_lt8 _ | with_reducible exact rowP_ok _ _ _ _ _ | with_reducible exact rowOK_nil _ _ | (apply rowOK_put <;> first | assumption | exact rowP_ok _ _ _ _ _ | omega)) only [↓rsd, rsu, ↓reduceIte, Option.map_some, Option.map_none, Option.getD_some, Option.getD_none, List.map_cons, List.map_nil, List.cons_append, List.nil_append, List.append_nil, List.getD_cons_zero, List.getD_cons_succ, List.length_cons, List.length_nil, List.getElem?_cons_zero, List.getElem?_cons_succ, List.set_cons_zero, List.set_cons_succ, Nat.reduceEqDiff, Nat.reduceBEq, Nat.reduceAdd, Nat.reduceMul, Nat.reduceSub, Int.reduceToNat, List.length_set, List.length_replicate, List.length_map, eq_self, Nat.reduceLT, Nat.reduceLeDiff, List.flatMap_cons, List.flatMap_nil, List.all_cons, List.all_nil, List.isEmpty_nil, List.isEmpty_cons, Int.reduceAdd, Int.reduceMul, Int.reduceSub, Int.reduceNeg, Int.reduceDiv, Int.reduceMod, forall_const, m8, san_ok hE, hfa, hfb]
      case' inr.inr =>
        have hsm : ∃ sm : Bool, (sm = true → t0 = t1 ∧ a.length = b.length) ∧ (sm = false → ¬ (t0 = t1 ∧ a = b)) ∧ sm = false := ⟨false, (fun h => by cases h), (fun _ h => h01 h.1), rfl⟩
        simp (maxSteps := 10000000) (disch := first | assumption | omega | (simp only [List.length_map, List.length_set, List.length_replicate, List.length_drop, List.length_take, List.length_append, List.length_cons, List.length_nil, bytes_len, strs_len] <;> omega) | with_reducible exact xor8_lt _ _ | with_reducible exact or8_lt _ _ | with_reducible exact toNat_lt8 _ | with_reducible exact rowP_ok _ _ _ _ _ | with_reducible exact rowOK_nil _ _ | (apply rowOK_put <;> first | assumption | exact rowP_ok _ _ _ _ _ | omega)) only [↓rsd, rsu, ↓reduceIte, Option.map_some, Option.map_none, Option.getD_some, Option.getD_none, List.map_cons, List.map_nil, List.cons_append, List.nil_append, List.append_nil, List.getD_cons_zero, List.getD_cons_succ, List.length_cons, List.length_nil, List.getElem?_cons_zero, List.getElem?_cons_succ, List.set_cons_zero, List.set_cons_succ, Nat.reduceEqDiff, Nat.reduceBEq, Nat.reduceAdd, Nat.reduceMul, Nat.reduceSub, Int.reduceToNat, List.length_set, List.length_replicate, List.length_map, eq_self, Nat.reduceLT, Nat.reduceLeDiff, List.flatMap_cons, List.flatMap_nil, List.all_cons, List.all_nil, List.isEmpty_nil, List.isEmpty_cons, Int.reduceAdd, Int.reduceMul, Int.reduceSub, Int.reduceNeg, Int.reduceDiv, Int.reduceMod, forall_const, m8, san_ok hE, hfa, hfb]
      all_goals
        obtain ⟨sm, hs1, hs2, hs3⟩ := hsm
        refine go_loop2 18 (fun c s => ∃ (i : Nat) (sm : Bool), c = a.length - i ∧ i ≤ a.length ∧ (sm = true → t0 = t1 ∧ a.length = b.length ∧ a.take i = b.take i) ∧ (sm = false → ¬ (t0 = t1 ∧ a = b)) ∧ s.N = 1 ∧ s.e 1 = .sl 1 (strsV a) ∧ s.e 2 = .sl 1 (strsV b) ∧
          s.e 3 = .ptr 0 0 ∧ s.e 7 = .bool true ∧ s.e 8 = .bool sm ∧ s.e 9 = .int .i64 i ∧ s.o 0 = .box [.int .u8 (t0 : Nat), .int .u8 (t1 : Nat)]) a.length ?_ ?_
        · refine ⟨0, sm, rfl, by omega, fun h => ⟨(hs1 h).1, (hs1 h).2, rfl⟩, hs2, rfl, ?_⟩
          simp (maxSteps := 10000000) (disch := first | assumption | omega | (simp only [List.length_map, List.length_set, List.length_replicate, List.length_drop, List.length_take, List.length_append, List.length_cons, List.length_nil, bytes_len, strs_len] <;> omega) | with_reducible exact xor8_lt _ _ | with_reducible exact or8_lt _ _ | with_reducible exact toNat_lt8 _ | with_reducible exact rowP_ok _ _ _ _ _ | with_reducible exact rowOK_nil _ _ | (apply rowOK_put <;> first | assumption | exact rowP_ok _ _ _ _ _ | omega)) only [↓rsd, rsu, ↓reduceIte, Option.map_some, Option.map_none, Option.getD_some, Option.getD_none, List.map_cons, List.map_nil, List.cons_append, List.nil_append, List.append_nil, List.getD_cons_zero, List.getD_cons_succ, List.length_cons, List.length_nil, List.getElem?_cons_zero, List.getElem?_cons_succ, List.set_cons_zero, List.set_cons_succ, Nat.reduceEqDiff, Nat.reduceBEq, Nat.reduceAdd, Nat.reduceMul, Nat.reduceSub, Int.reduceToNat, List.length_set, List.length_replicate, List.length_map, eq_self, Nat.reduceLT, Nat.reduceLeDiff, List.flatMap_cons, List.flatMap_nil, List.all_cons, List.all_nil, List.isEmpty_nil, List.isEmpty_cons, Int.reduceAdd, Int.reduceMul, Int.reduceSub, Int.reduceNeg, Int.reduceDiv, Int.reduceMod, forall_const, hs3]
          rfl
        · clear hs1 hs2 hs3 sm
          rintro c e o N ⟨i, sm, hc, hi, hs1, hs2, rfl, e1, e2, e3, e7, e8, e9, o0⟩
          simp only at e1 e2 e3 e7 e8 e9 o0
          have hex : (i < a.length ∧ sm = true) ∨ (¬ (i < a.length ∧ sm = true) ∧ ((t0 = t1 ∧ a = b ∧ sm = true) ∨ (¬ (t0 = t1 ∧ a = b) ∧ sm = false))) := by
            by_cases h : i < a.length ∧ sm = true
            · exact .inl h
            · refine .inr ⟨h, ?_⟩
              cases sm with
              | false => exact .inr ⟨hs2 rfl, rfl⟩
              | true =>
                have hia : i = a.length := by
                  rcases Nat.lt_or_ge i a.length with h' | h'
                  · exact absurd ⟨h', rfl⟩ h
                  · omega
                have h2 := hs1 rfl
                have h3 := h2.2.2
                rw [hia, List.take_length, h2.2.1, List.take_length] at h3
                exact .inl ⟨h2.1, h3, rfl⟩
          rcases hex with ⟨hlt, rfl⟩ | ⟨hno, hend⟩
          · have h2 := hs1 rfl
            first
            | exact absurd h2.2.1 hlen
            | exact absurd h2.1 h01
            | simp (maxSteps := 10000000) (disch := first | assumption | omega | (simp only [List.length_map, List.length_set, List.length_replicate, List.length_drop, List.length_take, List.length_append, List.length_cons, List.length_nil, bytes_len, strs_len] <;> omega) | with_reducible exact xor8_lt _ _ | with_reducible exact or8_lt _ _ | with_reducible exact toNat_lt8 _ | with_reducible exact rowP_ok _ _ _ _ _ | with_reducible exact rowOK_nil _ _ | (apply rowOK_put <;> first | assumption | exact rowP_ok _ _ _ _ _ | omega)) only [↓rsd, rsu, ↓reduceIte, Option.map_some, Option.map_none, Option.getD_some, Option.getD_none, List.map_cons, List.map_nil, List.cons_append, List.nil_append, List.append_nil, List.getD_cons_zero, List.getD_cons_succ, List.length_cons, List.length_nil, List.getElem?_cons_zero, List.getElem?_cons_succ, List.set_cons_zero, List.set_cons_succ, Nat.reduceEqDiff, Nat.reduceBEq, Nat.reduceAdd, Nat.reduceMul, Nat.reduceSub, Int.reduceToNat, List.length_set, List.length_replicate, List.length_map, eq_self, Nat.reduceLT, Nat.reduceLeDiff, List.flatMap_cons, List.flatMap_nil, List.all_cons, List.all_nil, List.isEmpty_nil, List.isEmpty_cons, Int.reduceAdd, Int.reduceMul, Int.reduceSub, Int.reduceNeg, Int.reduceDiv, Int.reduceMod, forall_const, e1, e2, e3, e7, e8, e9, o0]
              refine ⟨_, by omega, i + 1, _, rfl, by omega, ?_, ?_, rfl, rfl⟩
              · intro h
                refine ⟨h2.1, h2.2.1, ?_⟩
                have hi1 : i < b.length := by omega
                rw [List.take_add_one, List.take_add_one, List.getElem?_eq_getElem hlt, List.getElem?_eq_getElem hi1, h2.2.2]
                have := eq_of_beq h
                simp only [List.getD, List.getElem?_eq_getElem hlt, List.getElem?_eq_getElem hi1, Option.getD_some] at this
                rw [this]
              · intro h hh
                rw [hh.2, beq_rfl] at h
                cases h
          · have ha1 := inputR_len fa (t0 : Int).toNat
            have hwt0 : IntKind.i64.wrap (t0 : Int) = (t0 : Int) := wrap_i64n _ (by omega)
            have hwt1 : IntKind.i64.wrap (t1 : Int) = (t1 : Int) := wrap_i64n _ (by omega)
            have m0 : ((t0 : Int) % 256).toNat = t0 := by omega
            have m1 : ((t1 : Int) % 256).toNat = t1 := by omega
            have il0 := inputR_len fa t0
            have il1 := inputR_len fb t1
            rcases hend with ⟨g1, g2, g3⟩ | ⟨g1, g2⟩
            · have hge : ¬ i < a.length := fun h => hno ⟨h, g3⟩
              first
              | exact absurd (by rw [g2]) hlen
              | exact absurd g1 h01
              | subst g1 g2 g3
                simp (maxSteps := 10000000) (disch := first | assumption | omega | (simp only [List.length_map, List.length_set, List.length_replicate, List.length_drop, List.length_take, List.length_append, List.length_cons, List.length_nil, bytes_len, strs_len] <;> omega) | with_reducible exact xor8_lt _ _ | with_reducible exact or8_lt _ _ | with_reducible exact toNat_lt8 _ | with_reducible exact rowP_ok _ _ _ _ _ | with_reducible exact rowOK_nil _ _ | (apply rowOK_put <;> first | assumption | exact rowP_ok _ _ _ _ _ | omega)) only [↓rsd, rsu, ↓reduceIte, Option.map_some, Option.map_none, Option.getD_some, Option.getD_none, List.map_cons, List.map_nil, List.cons_append, List.nil_append, List.append_nil, List.getD_cons_zero, List.getD_cons_succ, List.length_cons, List.length_nil, List.getElem?_cons_zero, List.getElem?_cons_succ, List.set_cons_zero, List.set_cons_succ, Nat.reduceEqDiff, Nat.reduceBEq, Nat.reduceAdd, Nat.reduceMul, Nat.reduceSub, Int.reduceToNat, List.length_set, List.length_replicate, List.length_map, eq_self, Nat.reduceLT, Nat.reduceLeDiff, List.flatMap_cons, List.flatMap_nil, List.all_cons, List.all_nil, List.isEmpty_nil, List.isEmpty_cons, Int.reduceAdd, Int.reduceMul, Int.reduceSub, Int.reduceNeg, Int.reduceDiv, Int.reduceMod, forall_const, e1, e2, e3, e7, e8, e9, o0, hwt0, hwt1, input_ok hE, m0, m1, beq_rfl]
            · have hxy : inputR t0 a ≠ inputR t1 b := fun h => g1 (input_inj h0 h1 fa fb h)
              have hne : (inputR t0 a == inputR t1 b) = false := beq_eq_false_iff_ne.2 hxy
              have e1' : ofH (t0 : Int) a = (shaR (inputR t0 a)).take 16 := by rw [of_same _ fa]; unfold ofR; rw [m0]
              have e2' : ofH (t1 : Int) b = (shaR (inputR t1 b)).take 16 := by rw [of_same _ fb]; unfold ofR; rw [m1]
              have s1 := shaH_shaR (inputR t0 a) (by omega)
              have s2 := shaH_shaR (inputR t1 b) (by omega)
              have sl1 := shaR_len (inputR t0 a)
              have sl2 := shaR_len (inputR t1 b)
              subst g2
              rcases Nat.lt_or_ge i a.length with hlt | hge
              all_goals
                simp (maxSteps := 10000000) (disch := first | assumption | omega | (simp only [List.length_map, List.length_set, List.length_replicate, List.length_drop, List.length_take, List.length_append, List.length_cons, List.length_nil, bytes_len, strs_len] <;> omega) | with_reducible exact xor8_lt _ _ | with_reducible exact or8_lt _ _ | with_reducible exact toNat_lt8 _ | with_reducible exact rowP_ok _ _ _ _ _ | with_reducible exact rowOK_nil _ _ | (apply rowOK_put <;> first | assumption | exact rowP_ok _ _ _ _ _ | omega)) only [↓rsd, rsu, ↓reduceIte, Option.map_some, Option.map_none, Option.getD_some, Option.getD_none, List.map_cons, List.map_nil, List.cons_append, List.nil_append, List.append_nil, List.getD_cons_zero, List.getD_cons_succ, List.length_cons, List.length_nil, List.getElem?_cons_zero, List.getElem?_cons_succ, List.set_cons_zero, List.set_cons_succ, Nat.reduceEqDiff, Nat.reduceBEq, Nat.reduceAdd, Nat.reduceMul, Nat.reduceSub, Int.reduceToNat, List.length_set, List.length_replicate, List.length_map, eq_self, Nat.reduceLT, Nat.reduceLeDiff, List.flatMap_cons, List.flatMap_nil, List.all_cons, List.all_nil, List.isEmpty_nil, List.isEmpty_cons, Int.reduceAdd, Int.reduceMul, Int.reduceSub, Int.reduceNeg, Int.reduceDiv, Int.reduceMod, forall_const, e1, e2, e3, e7, e8, e9, o0, hwt0, hwt1, input_ok hE, m0, m1, hof_ok hE, sum_ok hE, e1', e2', s1, s2]
                generalize shaR (inputR t0 a) = H1 at *
                generalize shaR (inputR t1 b) = H2 at *
                clear e8 e9 hno hs1 hs2 hfa hfb
                refine go_loop2 18 (fun c s => ∃ q : Nat, c = 16 - q ∧ q ≤ 16 ∧ s.N = 5 ∧ s.e 7 = .bool true ∧ s.e 10 = .sl 1 (bytesV (inputR t0 a)) ∧ s.e 11 = .sl 1 (bytesV (inputR t1 b)) ∧ s.e 12 = .ptr 1 0 ∧ s.e 13 = .ptr 2 0 ∧ s.e 14 = .ptr 3 0 ∧ s.e 15 = .ptr 4 0 ∧
                  s.e 16 = .bool (H1.take q == H2.take q) ∧ s.e 17 = .int .i64 q ∧ s.o 1 = .box ((H1.take 16).map b8) ∧ s.o 2 = .box ((H2.take 16).map b8) ∧ s.o 3 = .box (H1.map b8) ∧ s.o 4 = .box (H2.map b8)) 16 ?_ ?_
                · refine ⟨0, rfl, by omega, rfl, ?_⟩
                  simp (maxSteps := 10000000) (disch := first | assumption | omega | (simp only [List.length_map, List.length_set, List.length_replicate, List.length_drop, List.length_take, List.length_append, List.length_cons, List.length_nil, bytes_len, strs_len] <;> omega) | with_reducible exact xor8_lt _ _ | with_reducible exact or8_lt _ _ | with_reducible exact toNat_lt8 _ | with_reducible exact rowP_ok _ _ _ _ _ | with_reducible exact rowOK_nil _ _ | (apply rowOK_put <;> first | assumption | exact rowP_ok _ _ _ _ _ | omega)) only [↓rsd, rsu, ↓reduceIte, Option.map_some, Option.map_none, Option.getD_some, Option.getD_none, List.map_cons, List.map_nil, List.cons_append, List.nil_append, List.append_nil, List.getD_cons_zero, List.getD_cons_succ, List.length_cons, List.length_nil, List.getElem?_cons_zero, List.getElem?_cons_succ, List.set_cons_zero, List.set_cons_succ, Nat.reduceEqDiff, Nat.reduceBEq, Nat.reduceAdd, Nat.reduceMul, Nat.reduceSub, Int.reduceToNat, List.length_set, List.length_replicate, List.length_map, eq_self, Nat.reduceLT, Nat.reduceLeDiff, List.flatMap_cons, List.flatMap_nil, List.all_cons, List.all_nil, List.isEmpty_nil, List.isEmpty_cons, Int.reduceAdd, Int.reduceMul, Int.reduceSub, Int.reduceNeg, Int.reduceDiv, Int.reduceMod, forall_const, e1, e2, e3, e7, o0]
                  exact ⟨rfl, rfl⟩
                · clear e1 e2 e3 e7 o0
                  rintro c e o N ⟨q, hc, hq, rfl, e7, e10, e11, e12, e13, e14, e15, e16, e17, o1, o2, o3, o4⟩
                  simp only at e7 e10 e11 e12 e13 e14 e15 e16 e17 o1 o2 o3 o4
                  by_cases hq16 : q < 16
                  · have hst : (H1.take (q + 1) == H2.take (q + 1)) = ((H1.take q == H2.take q) && (H1.getD q 0 == H2.getD q 0)) := by
                      rw [take_succ_getD H1 q (by omega), take_succ_getD H2 q (by omega), Bool.eq_iff_iff, Bool.and_eq_true, beq_iff_eq, beq_iff_eq, beq_iff_eq]
                      constructor
                      · intro h
                        have h3 := List.append_inj h (by simp; omega)
                        exact ⟨h3.1, by injection h3.2⟩
                      · rintro ⟨h1, h2⟩; rw [h1, h2]
                    have hd : (decide (((H1.getD q 0).toNat : Int) = ((H2.getD q 0).toNat : Int))) = (H1.getD q 0 == H2.getD q 0) := by
                      rw [Bool.eq_iff_iff, decide_eq_true_eq, beq_iff_eq]
                      constructor
                      · intro h; exact UInt8.toNat_inj.1 (by omega)
                      · intro h; rw [h]
                    cases hcl : (H1.take q == H2.take q) with
                    | false =>
                      rw [hcl] at e16
                      rw [hcl, Bool.false_and] at hst
                      simp (maxSteps := 10000000) (disch := first | assumption | omega | (simp only [List.length_map, List.length_set, List.length_replicate, List.length_drop, List.length_take, List.length_append, List.length_cons, List.length_nil, bytes_len, strs_len] <;> omega) | with_reducible exact xor8_lt _ _ | with_reducible exact or8_lt _ _ | with_reducible exact toNat_lt8 _ | with_reducible exact rowP_ok _ _ _ _ _ | with_reducible exact rowOK_nil _ _ | (apply rowOK_put <;> first | assumption | exact rowP_ok _ _ _ _ _ | omega)) only [↓rsd, rsu, ↓reduceIte, Option.map_some, Option.map_none, Option.getD_some, Option.getD_none, List.map_cons, List.map_nil, List.cons_append, List.nil_append, List.append_nil, List.getD_cons_zero, List.getD_cons_succ, List.length_cons, List.length_nil, List.getElem?_cons_zero, List.getElem?_cons_succ, List.set_cons_zero, List.set_cons_succ, Nat.reduceEqDiff, Nat.reduceBEq, Nat.reduceAdd, Nat.reduceMul, Nat.reduceSub, Int.reduceToNat, List.length_set, List.length_replicate, List.length_map, eq_self, Nat.reduceLT, Nat.reduceLeDiff, List.flatMap_cons, List.flatMap_nil, List.all_cons, List.all_nil, List.isEmpty_nil, List.isEmpty_cons, Int.reduceAdd, Int.reduceMul, Int.reduceSub, Int.reduceNeg, Int.reduceDiv, Int.reduceMod, forall_const, e7, e10, e11, e12, e13, e14, e15, e16, e17, o1, o2, o3, o4]
                      exact ⟨_, by omega, q + 1, rfl, by omega, by rw [hst], rfl⟩
                    | true =>
                      rw [hcl] at e16
                      rw [hcl, Bool.true_and] at hst
                      simp (maxSteps := 10000000) (disch := first | assumption | omega | (simp only [List.length_map, List.length_set, List.length_replicate, List.length_drop, List.length_take, List.length_append, List.length_cons, List.length_nil, bytes_len, strs_len] <;> omega) | with_reducible exact xor8_lt _ _ | with_reducible exact or8_lt _ _ | with_reducible exact toNat_lt8 _ | with_reducible exact rowP_ok _ _ _ _ _ | with_reducible exact rowOK_nil _ _ | (apply rowOK_put <;> first | assumption | exact rowP_ok _ _ _ _ _ | omega)) only [↓rsd, rsu, ↓reduceIte, Option.map_some, Option.map_none, Option.getD_some, Option.getD_none, List.map_cons, List.map_nil, List.cons_append, List.nil_append, List.append_nil, List.getD_cons_zero, List.getD_cons_succ, List.length_cons, List.length_nil, List.getElem?_cons_zero, List.getElem?_cons_succ, List.set_cons_zero, List.set_cons_succ, Nat.reduceEqDiff, Nat.reduceBEq, Nat.reduceAdd, Nat.reduceMul, Nat.reduceSub, Int.reduceToNat, List.length_set, List.length_replicate, List.length_map, eq_self, Nat.reduceLT, Nat.reduceLeDiff, List.flatMap_cons, List.flatMap_nil, List.all_cons, List.all_nil, List.isEmpty_nil, List.isEmpty_cons, Int.reduceAdd, Int.reduceMul, Int.reduceSub, Int.reduceNeg, Int.reduceDiv, Int.reduceMod, forall_const, e7, e10, e11, e12, e13, e14, e15, e16, e17, o1, o2, o3, o4, eql_d, hd]
                      exact ⟨_, by omega, q + 1, rfl, by omega, by rw [hst], rfl⟩
                  · have hqq : q = 16 := by omega
                    subst hqq
                    have tl1 : (H1.take 16).length = 16 := by simp; omega
                    have tl2 : (H2.take 16).length = 16 := by simp; omega
                    simp (maxSteps := 10000000) (disch := first | assumption | omega | (simp only [List.length_map, List.length_set, List.length_replicate, List.length_drop, List.length_take, List.length_append, List.length_cons, List.length_nil, bytes_len, strs_len] <;> omega) | with_reducible exact xor8_lt _ _ | with_reducible exact or8_lt _ _ | with_reducible exact toNat_lt8 _ | with_reducible exact rowP_ok _ _ _ _ _ | with_reducible exact rowOK_nil _ _ | (apply rowOK_put <;> first | assumption | exact rowP_ok _ _ _ _ _ | omega)) only [↓rsd, rsu, ↓reduceIte, Option.map_some, Option.map_none, Option.getD_some, Option.getD_none, List.map_cons, List.map_nil, List.cons_append, List.nil_append, List.append_nil, List.getD_cons_zero, List.getD_cons_succ, List.length_cons, List.length_nil, List.getElem?_cons_zero, List.getElem?_cons_succ, List.set_cons_zero, List.set_cons_succ, Nat.reduceEqDiff, Nat.reduceBEq, Nat.reduceAdd, Nat.reduceMul, Nat.reduceSub, Int.reduceToNat, List.length_set, List.length_replicate, List.length_map, eq_self, Nat.reduceLT, Nat.reduceLeDiff, List.flatMap_cons, List.flatMap_nil, List.all_cons, List.all_nil, List.isEmpty_nil, List.isEmpty_cons, Int.reduceAdd, Int.reduceMul, Int.reduceSub, Int.reduceNeg, Int.reduceDiv, Int.reduceMod, forall_const, e7, e10, e11, e12, e13, e14, e15, e16, e17, o1, o2, o3, o4, hne, eqc16, beq_bool]
    · have hg' : fewB b = false := by simpa using hg
      rw [hf] at hfa
      rw [hg'] at hfb
      simp (maxSteps := 10000000) (disch := first | assumption | omega | (simp only [List.length_map, List.length_set, List.length_replicate, List.length_drop, List.length_take, List.length_append, List.length_cons, List.length_nil, bytes_len, strs_len] <;> omega) | with_reducible exact xor8_lt _ _ | with_reducible exact or8_lt _ _ | with_reducible exact toNat_lt8 _ | with_reducible exact rowP_ok _ _ _ _ _ | with_reducible exact rowOK_nil _ _ | (apply rowOK_put <;> first | assumption | exact rowP_ok _ _ _ _ _ | omega)) only [↓rsd, rsu, ↓reduceIte, Option.map_some, Option.map_none, Option.getD_some, Option.getD_none, List.map_cons, List.map_nil, List.cons_append, List.nil_append, List.append_nil, List.getD_cons_zero, List.getD_cons_succ, List.length_cons, List.length_nil, List.getElem?_cons_zero, List.getElem?_cons_succ, List.set_cons_zero, List.set_cons_succ, Nat.reduceEqDiff, Nat.reduceBEq, Nat.reduceAdd, Nat.reduceMul, Nat.reduceSub, Int.reduceToNat, List.length_set, List.length_replicate, List.length_map, eq_self, Nat.reduceLT, Nat.reduceLeDiff, List.flatMap_cons, List.flatMap_nil, List.all_cons, List.all_nil, List.isEmpty_nil, List.isEmpty_cons, Int.reduceAdd, Int.reduceMul, Int.reduceSub, Int.reduceNeg, Int.reduceDiv, Int.reduceMod, forall_const, m8, san_ok hE, hfa, hfb]
  · have hf' : fewB a = false := by simpa using hf
    rw [hf'] at hfa
    simp (maxSteps := 10000000) (disch := first | assumption | omega | (simp only [List.length_map, List.length_set, List.length_replicate, List.length_drop, List.length_take, List.length_append, List.length_cons, List.length_nil, bytes_len, strs_len] <;> omega) | with_reducible exact xor8_lt _ _ | with_reducible exact or8_lt _ _ | with_reducible exact toNat_lt8 _ | with_reducible exact rowP_ok _ _ _ _ _ | with_reducible exact rowOK_nil _ _ | (apply rowOK_put <;> first | assumption | exact rowP_ok _ _ _ _ _ | omega)) only [↓rsd, rsu, ↓reduceIte, Option.map_some, Option.map_none, Option.getD_some, Option.getD_none, List.map_cons, List.map_nil, List.cons_append, List.nil_append, List.append_nil, List.getD_cons_zero, List.getD_cons_succ, List.length_cons, List.length_nil, List.getElem?_cons_zero, List.getElem?_cons_succ, List.set_cons_zero, List.set_cons_succ, Nat.reduceEqDiff, Nat.reduceBEq, Nat.reduceAdd, Nat.reduceMul, Nat.reduceSub, Int.reduceToNat, List.length_set, List.length_replicate, List.length_map, eq_self, Nat.reduceLT, Nat.reduceLeDiff, List.flatMap_cons, List.flatMap_nil, List.all_cons, List.all_nil, List.isEmpty_nil, List.isEmpty_cons, Int.reduceAdd, Int.reduceMul, Int.reduceSub, Int.reduceNeg, Int.reduceDiv, Int.reduceMod, forall_const, m8, san_ok hE, hfa]
end Go.Proofs.YtoccgkgdhobmfaaDoor.Am.Ru
