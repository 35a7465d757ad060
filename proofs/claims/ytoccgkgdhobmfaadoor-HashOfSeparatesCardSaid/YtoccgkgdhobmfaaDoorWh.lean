/- The abstract machine and the contracts of the program, part Wh. -/
import Derived.Test.YtoccgkgdhobmfaaDoorWf
import Derived.Test.YtoccgkgdhobmfaaDoorWe
set_option maxRecDepth 100000
set_option linter.unusedSimpArgs false
namespace Go.Proofs.YtoccgkgdhobmfaaDoor.Am.Ru
open Go
variable {G : Nat → Option (List V)} {E : Nat → Option (CallFn → List V → Hp → Nat → Option Out)}

/-- The constants of the hash function. -/
def KL : List Nat := [1116352408, 1899447441, 3049323471, 3921009573, 961987163, 1508970993, 2453635748, 2870763221, 3624381080, 310598401, 607225278, 1426881987, 1925078388, 2162078206, 2614888103, 3248222580, 3835390401, 4022224774, 264347078, 604807628, 770255983, 1249150122, 1555081692, 1996064986, 2554220882, 2821834349, 2952996808, 3210313671, 3336571891, 3584528711, 113926993, 338241895, 666307205, 773529912, 1294757372, 1396182291, 1695183700, 1986661051, 2177026350, 2456956037, 2730485921, 2820302411, 3259730800, 3345764771, 3516065817, 3600352804, 4094571909, 275423344, 430227734, 506948616, 659060556, 883997877, 958139571, 1322822218, 1537002063, 1747873779, 1955562222, 2024104815, 2227730452, 2361852424, 2428436474, 2756734187, 3204031479, 3329325298]
theorem KL_len : KL.length = 64 := rfl
/-- The functions that are proved by hand. -/
def ext (f : Nat) : Bool := [81, 82, 85, 97, 107, 109].contains f
structure EOK (G : Nat → Option (List V)) (E : Nat → Option (CallFn → List V → Hp → Nat → Option Out)) : Prop where
  mono : MonoE E
  no : ∀ f, ext f = false → E f = none
  g1 : G 1 = some (KL.map n32)

theorem vrun (t : Nat) {f : Nat} {m : MF} {a : List V} {v : V} (hE : EOK G E) (h0 : ext f = false) (hT : T f = some m) (hnp : a.length = m.np) (ht : Nat.ble a.length t = true)
    (h : go G (cfW G T E) (fin m.res 0 v) m.body [] ⟨e2 t (initEnv a) jk, dd, 0⟩) : valP (cfW G T E) f a = some (.ret v) := val_run t hE.mono (hE.no f h0) hT hnp (Nat.le_of_ble_eq_true ht) h

def rotr (x n : Nat) : Nat := or32 (shr32 x n) (shl32 x (32 - n))
theorem rotr_ok (hE : EOK G E) (x : Nat) (n : Int) (h0 : 0 ≤ n) (h : n ≤ 32) : valP (cfW G T E) 49 [.int .u32 x, .int .i64 n] = some (.ret (.int .u32 (rotr x n.toNat : Nat))) := by
  refine vrun 4 (m := m49) hE rfl rfl rfl rfl ?_
  simp (maxSteps := 10000000) (disch := first | assumption | omega | (simp only [List.length_map, List.length_set, List.length_replicate, List.length_drop, List.length_take, List.length_append, List.length_cons, List.length_nil, bytes_len, strs_len] <;> omega) | with_reducible exact xor8_lt _ _ | with_reducible exact or8_lt _ _ | with_reducible exact toNat_lt8 _ | with_reducible exact rowP_ok _ _ _ _ _ | with_reducible exact rowOK_nil _ _ | (apply rowOK_put <;> first | assumption | exact rowP_ok _ _ _ _ _ | omega)) only [↓rsd, rsu, ↓reduceIte, Option.map_some, Option.map_none, Option.getD_some, Option.getD_none, List.map_cons, List.map_nil, List.cons_append, List.nil_append, List.append_nil, List.getD_cons_zero, List.getD_cons_succ, List.length_cons, List.length_nil, List.getElem?_cons_zero, List.getElem?_cons_succ, List.set_cons_zero, List.set_cons_succ, Nat.reduceEqDiff, Nat.reduceBEq, Nat.reduceAdd, Nat.reduceMul, Nat.reduceSub, Int.reduceToNat, List.length_set, List.length_replicate, List.length_map, eq_self, Nat.reduceLT, Nat.reduceLeDiff, List.flatMap_cons, List.flatMap_nil, List.all_cons, List.all_nil, List.isEmpty_nil, List.isEmpty_cons, Int.reduceAdd, Int.reduceMul, Int.reduceSub, Int.reduceNeg, Int.reduceDiv, Int.reduceMod, forall_const, m49]
  rfl
theorem or32_comm (a b : Nat) : or32 a b = or32 b a := by unfold or32; rw [Nat.or_comm]
theorem and31 (n : Int) : binV .and (.int .u64 (IntKind.u64.wrap n)) (.int .u64 ((31 : Nat) : Int)) = some (.int .u64 (n % 32)) := by
  have hc : IntKind.u64.wrap n = ((n % 18446744073709551616).toNat : Nat) := by rw [w64]; omega
  rw [hc, b_and64u]
  have : and64u (n % 18446744073709551616).toNat 31 = (n % 32).toNat := by
    unfold and64u
    rw [show (31 : Nat) = 2 ^ 5 - 1 from rfl, Nat.and_two_pow_sub_one_eq_mod]
    omega
  rw [this]; congr 3; omega
theorem sub64u (a b : Int) (h : 0 ≤ a - b) (h' : a - b < 18446744073709551616) : binV .sub (.int .u64 a) (.int .u64 b) = some (.int .u64 (a - b)) := by
  simp only [binV, binI, if_true, w64]; congr 2; omega

theorem rotl_ok (hE : EOK G E) (x : Nat) (n : Int) (h0 : 0 < n) (h : n < 32) : valP (cfW G T E) 111 [.int .u32 x, .int .i64 (-n)] = some (.ret (.int .u32 (rotr x n.toNat : Nat))) := by
  have e1 : (-n) % 32 = 32 - n := by omega
  have e2 : ((32 : Nat) : Int) - (32 - n) = n := by omega
  refine vrun 6 (m := m111) hE rfl rfl rfl rfl ?_
  simp (maxSteps := 10000000) (disch := first | assumption | omega | (simp only [List.length_map, List.length_set, List.length_replicate, List.length_drop, List.length_take, List.length_append, List.length_cons, List.length_nil, bytes_len, strs_len] <;> omega) | with_reducible exact xor8_lt _ _ | with_reducible exact or8_lt _ _ | with_reducible exact toNat_lt8 _ | with_reducible exact rowP_ok _ _ _ _ _ | with_reducible exact rowOK_nil _ _ | (apply rowOK_put <;> first | assumption | exact rowP_ok _ _ _ _ _ | omega)) only [↓rsd, rsu, ↓reduceIte, Option.map_some, Option.map_none, Option.getD_some, Option.getD_none, List.map_cons, List.map_nil, List.cons_append, List.nil_append, List.append_nil, List.getD_cons_zero, List.getD_cons_succ, List.length_cons, List.length_nil, List.getElem?_cons_zero, List.getElem?_cons_succ, List.set_cons_zero, List.set_cons_succ, Nat.reduceEqDiff, Nat.reduceBEq, Nat.reduceAdd, Nat.reduceMul, Nat.reduceSub, Int.reduceToNat, List.length_set, List.length_replicate, List.length_map, eq_self, Nat.reduceLT, Nat.reduceLeDiff, List.flatMap_cons, List.flatMap_nil, List.all_cons, List.all_nil, List.isEmpty_nil, List.isEmpty_cons, Int.reduceAdd, Int.reduceMul, Int.reduceSub, Int.reduceNeg, Int.reduceDiv, Int.reduceMod, forall_const, m111, and31, sub64u, e1, e2]
  rw [or32_comm]; rfl

def mix (x i j k : Nat) : Nat := xor32 (xor32 (rotr x i) (rotr x j)) (rotr x k)
theorem mix_ok (hE : EOK G E) (x : Nat) (i j k : Int) (h0 : 0 < i) (h : i < 32) (h0' : 0 < j) (h' : j < 32) (h0'' : 0 < k) (h'' : k < 32) :
    valP (cfW G T E) 91 [.int .u32 x, .int .i64 i, .int .i64 j, .int .i64 k] = some (.ret (.int .u32 (mix x i.toNat j.toNat k.toNat : Nat))) := by
  refine vrun 8 (m := m91) hE rfl rfl rfl rfl ?_
  simp (maxSteps := 10000000) (disch := first | assumption | omega | (simp only [List.length_map, List.length_set, List.length_replicate, List.length_drop, List.length_take, List.length_append, List.length_cons, List.length_nil, bytes_len, strs_len] <;> omega) | with_reducible exact xor8_lt _ _ | with_reducible exact or8_lt _ _ | with_reducible exact toNat_lt8 _ | with_reducible exact rowP_ok _ _ _ _ _ | with_reducible exact rowOK_nil _ _ | (apply rowOK_put <;> first | assumption | exact rowP_ok _ _ _ _ _ | omega)) only [↓rsd, rsu, ↓reduceIte, Option.map_some, Option.map_none, Option.getD_some, Option.getD_none, List.map_cons, List.map_nil, List.cons_append, List.nil_append, List.append_nil, List.getD_cons_zero, List.getD_cons_succ, List.length_cons, List.length_nil, List.getElem?_cons_zero, List.getElem?_cons_succ, List.set_cons_zero, List.set_cons_succ, Nat.reduceEqDiff, Nat.reduceBEq, Nat.reduceAdd, Nat.reduceMul, Nat.reduceSub, Int.reduceToNat, List.length_set, List.length_replicate, List.length_map, eq_self, Nat.reduceLT, Nat.reduceLeDiff, List.flatMap_cons, List.flatMap_nil, List.all_cons, List.all_nil, List.isEmpty_nil, List.isEmpty_cons, Int.reduceAdd, Int.reduceMul, Int.reduceSub, Int.reduceNeg, Int.reduceDiv, Int.reduceMod, forall_const, m91, rotl_ok hE]
  rfl
end Go.Proofs.YtoccgkgdhobmfaaDoor.Am.Ru

set_option maxRecDepth 100000
set_option linter.unusedSimpArgs false
namespace Go.Proofs.YtoccgkgdhobmfaaDoor.Am.Ru
open Go
variable {G : Nat → Option (List V)} {E : Nat → Option (CallFn → List V → Hp → Nat → Option Out)}

def wrd (b : List UInt8) (t : Nat) : Nat := or32 (or32 (or32 (shl32 ((b.getD (4 * t) 0).toNat) 24) (shl32 ((b.getD (4 * t + 1) 0).toNat) 16)) (shl32 ((b.getD (4 * t + 2) 0).toNat) 8)) ((b.getD (4 * t + 3) 0).toNat)
def ws1 (b : List UInt8) : Nat → List Nat
  | 0 => List.replicate 64 0
  | i + 1 => (ws1 b i).set i (wrd b i)
theorem ws1_len (b : List UInt8) (i : Nat) : (ws1 b i).length = 64 := by
  induction i with
  | zero => simp [ws1]
  | succ i ih => simp [ws1, ih]
theorem m32_8 (x : UInt8) : x.toNat % 4294967296 = x.toNat := by have := toNat_lt8 x; omega
def sg0 (x : Nat) : Nat := xor32 (xor32 (rotr x 7) (rotr x 18)) (shr32 x 3)
def sg1 (x : Nat) : Nat := xor32 (xor32 (rotr x 17) (rotr x 19)) (shr32 x 10)
def ws2 (ws : List Nat) : Nat → List Nat
  | 0 => ws
  | i + 1 => (ws2 ws i).set (16 + i) (add32 (add32 (add32 ((ws2 ws i).getD (16 + i - 16) 0) (sg0 ((ws2 ws i).getD (16 + i - 15) 0))) ((ws2 ws i).getD (16 + i - 7) 0)) (sg1 ((ws2 ws i).getD (16 + i - 2) 0)))
theorem ws2_len (ws : List Nat) (i : Nat) : (ws2 ws i).length = ws.length := by
  induction i with
  | zero => simp [ws2]
  | succ i ih => simp [ws2, ih]
def wsOf (b : List UInt8) : List Nat := ws2 (ws1 b 16) 48

theorem words_ok (hE : EOK G E) (b : List UInt8) (hb : b.length = 64) : valP (cfW G T E) 48 [.sl 1 (bytesV b)] = some (.ret (.agg ((wsOf b).map n32))) := by
  refine vrun 8 (m := m48) hE rfl rfl rfl rfl ?_
  simp (maxSteps := 10000000) (disch := first | assumption | omega | (simp only [List.length_map, List.length_set, List.length_replicate, List.length_drop, List.length_take, List.length_append, List.length_cons, List.length_nil, bytes_len, strs_len] <;> omega) | with_reducible exact xor8_lt _ _ | with_reducible exact or8_lt _ _ | with_reducible exact toNat_lt8 _ | with_reducible exact rowP_ok _ _ _ _ _ | with_reducible exact rowOK_nil _ _ | (apply rowOK_put <;> first | assumption | exact rowP_ok _ _ _ _ _ | omega)) only [↓rsd, rsu, ↓reduceIte, Option.map_some, Option.map_none, Option.getD_some, Option.getD_none, List.map_cons, List.map_nil, List.cons_append, List.nil_append, List.append_nil, List.getD_cons_zero, List.getD_cons_succ, List.length_cons, List.length_nil, List.getElem?_cons_zero, List.getElem?_cons_succ, List.set_cons_zero, List.set_cons_succ, Nat.reduceEqDiff, Nat.reduceBEq, Nat.reduceAdd, Nat.reduceMul, Nat.reduceSub, Int.reduceToNat, List.length_set, List.length_replicate, List.length_map, eq_self, Nat.reduceLT, Nat.reduceLeDiff, List.flatMap_cons, List.flatMap_nil, List.all_cons, List.all_nil, List.isEmpty_nil, List.isEmpty_cons, Int.reduceAdd, Int.reduceMul, Int.reduceSub, Int.reduceNeg, Int.reduceDiv, Int.reduceMod, forall_const, m48]
  refine go_loop2 8 (fun n s => ∃ i : Nat, n = 16 - i ∧ i ≤ 16 ∧ s.N = 2 ∧ s.e 0 = .sl 1 (bytesV b) ∧ s.e 2 = .ptr 0 0 ∧ s.e 3 = .ptr 1 0 ∧ s.e 4 = .int .i64 i ∧ s.o 0 = .box ((List.replicate 64 0).map n32) ∧ s.o 1 = .box ((ws1 b i).map n32)) 16 ?_ ?_
  · refine ⟨0, rfl, by omega, rfl, ?_⟩
    simp (maxSteps := 10000000) (disch := first | assumption | omega | (simp only [List.length_map, List.length_set, List.length_replicate, List.length_drop, List.length_take, List.length_append, List.length_cons, List.length_nil, bytes_len, strs_len] <;> omega) | with_reducible exact xor8_lt _ _ | with_reducible exact or8_lt _ _ | with_reducible exact toNat_lt8 _ | with_reducible exact rowP_ok _ _ _ _ _ | with_reducible exact rowOK_nil _ _ | (apply rowOK_put <;> first | assumption | exact rowP_ok _ _ _ _ _ | omega)) only [↓rsd, rsu, ↓reduceIte, Option.map_some, Option.map_none, Option.getD_some, Option.getD_none, List.map_cons, List.map_nil, List.cons_append, List.nil_append, List.append_nil, List.getD_cons_zero, List.getD_cons_succ, List.length_cons, List.length_nil, List.getElem?_cons_zero, List.getElem?_cons_succ, List.set_cons_zero, List.set_cons_succ, Nat.reduceEqDiff, Nat.reduceBEq, Nat.reduceAdd, Nat.reduceMul, Nat.reduceSub, Int.reduceToNat, List.length_set, List.length_replicate, List.length_map, eq_self, Nat.reduceLT, Nat.reduceLeDiff, List.flatMap_cons, List.flatMap_nil, List.all_cons, List.all_nil, List.isEmpty_nil, List.isEmpty_cons, Int.reduceAdd, Int.reduceMul, Int.reduceSub, Int.reduceNeg, Int.reduceDiv, Int.reduceMod, forall_const]
    exact ⟨rfl, rfl⟩
  · rintro n e o N ⟨i, hn, hi, rfl, e0, e2, e3, e4, o0, o1⟩
    simp only at e0 e2 e3 e4 o0 o1
    have hw := ws1_len b i
    by_cases hlt : i < 16
    · simp (maxSteps := 10000000) (disch := first | assumption | omega | (simp only [List.length_map, List.length_set, List.length_replicate, List.length_drop, List.length_take, List.length_append, List.length_cons, List.length_nil, bytes_len, strs_len] <;> omega) | with_reducible exact xor8_lt _ _ | with_reducible exact or8_lt _ _ | with_reducible exact toNat_lt8 _ | with_reducible exact rowP_ok _ _ _ _ _ | with_reducible exact rowOK_nil _ _ | (apply rowOK_put <;> first | assumption | exact rowP_ok _ _ _ _ _ | omega)) only [↓rsd, rsu, ↓reduceIte, Option.map_some, Option.map_none, Option.getD_some, Option.getD_none, List.map_cons, List.map_nil, List.cons_append, List.nil_append, List.append_nil, List.getD_cons_zero, List.getD_cons_succ, List.length_cons, List.length_nil, List.getElem?_cons_zero, List.getElem?_cons_succ, List.set_cons_zero, List.set_cons_succ, Nat.reduceEqDiff, Nat.reduceBEq, Nat.reduceAdd, Nat.reduceMul, Nat.reduceSub, Int.reduceToNat, List.length_set, List.length_replicate, List.length_map, eq_self, Nat.reduceLT, Nat.reduceLeDiff, List.flatMap_cons, List.flatMap_nil, List.all_cons, List.all_nil, List.isEmpty_nil, List.isEmpty_cons, Int.reduceAdd, Int.reduceMul, Int.reduceSub, Int.reduceNeg, Int.reduceDiv, Int.reduceMod, forall_const, e0, e2, e3, e4, o0, o1, m32_8]
      exact ⟨_, by omega, i + 1, rfl, by omega, rfl, rfl⟩
    · simp (maxSteps := 10000000) (disch := first | assumption | omega | (simp only [List.length_map, List.length_set, List.length_replicate, List.length_drop, List.length_take, List.length_append, List.length_cons, List.length_nil, bytes_len, strs_len] <;> omega) | with_reducible exact xor8_lt _ _ | with_reducible exact or8_lt _ _ | with_reducible exact toNat_lt8 _ | with_reducible exact rowP_ok _ _ _ _ _ | with_reducible exact rowOK_nil _ _ | (apply rowOK_put <;> first | assumption | exact rowP_ok _ _ _ _ _ | omega)) only [↓rsd, rsu, ↓reduceIte, Option.map_some, Option.map_none, Option.getD_some, Option.getD_none, List.map_cons, List.map_nil, List.cons_append, List.nil_append, List.append_nil, List.getD_cons_zero, List.getD_cons_succ, List.length_cons, List.length_nil, List.getElem?_cons_zero, List.getElem?_cons_succ, List.set_cons_zero, List.set_cons_succ, Nat.reduceEqDiff, Nat.reduceBEq, Nat.reduceAdd, Nat.reduceMul, Nat.reduceSub, Int.reduceToNat, List.length_set, List.length_replicate, List.length_map, eq_self, Nat.reduceLT, Nat.reduceLeDiff, List.flatMap_cons, List.flatMap_nil, List.all_cons, List.all_nil, List.isEmpty_nil, List.isEmpty_cons, Int.reduceAdd, Int.reduceMul, Int.reduceSub, Int.reduceNeg, Int.reduceDiv, Int.reduceMod, forall_const, e0, e2, e3, e4, o0, o1]
      have h16 : i = 16 := by omega
      subst h16
      clear hn hi
      refine go_loop2 8 (fun n s => ∃ i : Nat, n = 48 - i ∧ i ≤ 48 ∧ s.N = 2 ∧ s.e 2 = .ptr 0 0 ∧ s.e 3 = .ptr 1 0 ∧ s.e 5 = .int .i64 (16 + i) ∧ s.o 0 = .box ((List.replicate 64 0).map n32) ∧ s.o 1 = .box ((ws2 (ws1 b 16) i).map n32)) 48 ?_ ?_
      · refine ⟨0, rfl, by omega, rfl, ?_⟩
        simp (maxSteps := 10000000) (disch := first | assumption | omega | (simp only [List.length_map, List.length_set, List.length_replicate, List.length_drop, List.length_take, List.length_append, List.length_cons, List.length_nil, bytes_len, strs_len] <;> omega) | with_reducible exact xor8_lt _ _ | with_reducible exact or8_lt _ _ | with_reducible exact toNat_lt8 _ | with_reducible exact rowP_ok _ _ _ _ _ | with_reducible exact rowOK_nil _ _ | (apply rowOK_put <;> first | assumption | exact rowP_ok _ _ _ _ _ | omega)) only [↓rsd, rsu, ↓reduceIte, Option.map_some, Option.map_none, Option.getD_some, Option.getD_none, List.map_cons, List.map_nil, List.cons_append, List.nil_append, List.append_nil, List.getD_cons_zero, List.getD_cons_succ, List.length_cons, List.length_nil, List.getElem?_cons_zero, List.getElem?_cons_succ, List.set_cons_zero, List.set_cons_succ, Nat.reduceEqDiff, Nat.reduceBEq, Nat.reduceAdd, Nat.reduceMul, Nat.reduceSub, Int.reduceToNat, List.length_set, List.length_replicate, List.length_map, eq_self, Nat.reduceLT, Nat.reduceLeDiff, List.flatMap_cons, List.flatMap_nil, List.all_cons, List.all_nil, List.isEmpty_nil, List.isEmpty_cons, Int.reduceAdd, Int.reduceMul, Int.reduceSub, Int.reduceNeg, Int.reduceDiv, Int.reduceMod, forall_const, e2, e3, o0, o1]
        exact ⟨rfl, rfl⟩
      · clear e0 e2 e3 e4 o0 o1
        rintro n e o N ⟨i, hn, hi, rfl, e2, e3, e5, o0, o1⟩
        simp only at e2 e3 e5 o0 o1
        have hw2 := ws2_len (ws1 b 16) i
        by_cases hlt : i < 48
        · simp (maxSteps := 10000000) (disch := first | assumption | omega | (simp only [List.length_map, List.length_set, List.length_replicate, List.length_drop, List.length_take, List.length_append, List.length_cons, List.length_nil, bytes_len, strs_len] <;> omega) | with_reducible exact xor8_lt _ _ | with_reducible exact or8_lt _ _ | with_reducible exact toNat_lt8 _ | with_reducible exact rowP_ok _ _ _ _ _ | with_reducible exact rowOK_nil _ _ | (apply rowOK_put <;> first | assumption | exact rowP_ok _ _ _ _ _ | omega)) only [↓rsd, rsu, ↓reduceIte, Option.map_some, Option.map_none, Option.getD_some, Option.getD_none, List.map_cons, List.map_nil, List.cons_append, List.nil_append, List.append_nil, List.getD_cons_zero, List.getD_cons_succ, List.length_cons, List.length_nil, List.getElem?_cons_zero, List.getElem?_cons_succ, List.set_cons_zero, List.set_cons_succ, Nat.reduceEqDiff, Nat.reduceBEq, Nat.reduceAdd, Nat.reduceMul, Nat.reduceSub, Int.reduceToNat, List.length_set, List.length_replicate, List.length_map, eq_self, Nat.reduceLT, Nat.reduceLeDiff, List.flatMap_cons, List.flatMap_nil, List.all_cons, List.all_nil, List.isEmpty_nil, List.isEmpty_cons, Int.reduceAdd, Int.reduceMul, Int.reduceSub, Int.reduceNeg, Int.reduceDiv, Int.reduceMod, forall_const, e2, e3, e5, o0, o1, rotr_ok hE]
          exact ⟨_, by omega, i + 1, rfl, by omega, by rw [Int.natCast_add, ← Int.add_assoc]; rfl, rfl⟩
        · simp (maxSteps := 10000000) (disch := first | assumption | omega | (simp only [List.length_map, List.length_set, List.length_replicate, List.length_drop, List.length_take, List.length_append, List.length_cons, List.length_nil, bytes_len, strs_len] <;> omega) | with_reducible exact xor8_lt _ _ | with_reducible exact or8_lt _ _ | with_reducible exact toNat_lt8 _ | with_reducible exact rowP_ok _ _ _ _ _ | with_reducible exact rowOK_nil _ _ | (apply rowOK_put <;> first | assumption | exact rowP_ok _ _ _ _ _ | omega)) only [↓rsd, rsu, ↓reduceIte, Option.map_some, Option.map_none, Option.getD_some, Option.getD_none, List.map_cons, List.map_nil, List.cons_append, List.nil_append, List.append_nil, List.getD_cons_zero, List.getD_cons_succ, List.length_cons, List.length_nil, List.getElem?_cons_zero, List.getElem?_cons_succ, List.set_cons_zero, List.set_cons_succ, Nat.reduceEqDiff, Nat.reduceBEq, Nat.reduceAdd, Nat.reduceMul, Nat.reduceSub, Int.reduceToNat, List.length_set, List.length_replicate, List.length_map, eq_self, Nat.reduceLT, Nat.reduceLeDiff, List.flatMap_cons, List.flatMap_nil, List.all_cons, List.all_nil, List.isEmpty_nil, List.isEmpty_cons, Int.reduceAdd, Int.reduceMul, Int.reduceSub, Int.reduceNeg, Int.reduceDiv, Int.reduceMod, forall_const, e2, e3, e5, o0, o1]
          have h48 : i = 48 := by omega
          subst h48
          rfl
end Go.Proofs.YtoccgkgdhobmfaaDoor.Am.Ru

set_option maxRecDepth 100000
set_option linter.unusedSimpArgs false
namespace Go.Proofs.YtoccgkgdhobmfaaDoor.Am.Ru
open Go
variable {G : Nat → Option (List V)} {E : Nat → Option (CallFn → List V → Hp → Nat → Option Out)}

/-- One word of a block, byte by byte. -/
def wi (b : List UInt8) (t : Nat) (ws : List Nat) : Nat → List Nat
  | 0 => ws
  | j + 1 => (wi b t ws j).set t (or32 (shl32 ((wi b t ws j).getD t 0) 8) (((b.drop (4 * t)).take (4 * t + 4 - 4 * t)).getD j 0).toNat)
theorem wi_len (b : List UInt8) (t : Nat) (ws : List Nat) (j : Nat) : (wi b t ws j).length = ws.length := by
  induction j with
  | zero => simp [wi]
  | succ i ih => simp [wi, ih]
def sch (b : List UInt8) : Nat → List Nat
  | 0 => List.replicate 64 0
  | t + 1 => if t < 16 then wi b t (sch b t) 4 else (sch b t).set t (add32 (add32 (add32 ((sch b t).getD (t - 16) 0) (sg0 ((sch b t).getD (t - 15) 0))) ((sch b t).getD (t - 7) 0)) (sg1 ((sch b t).getD (t - 2) 0)))
theorem sch_len (b : List UInt8) (t : Nat) : (sch b t).length = 64 := by
  induction t with
  | zero => simp [sch]
  | succ i ih =>
    simp only [sch]
    split
    · rw [wi_len, ih]
    · rw [List.length_set, ih]

theorem schedule_ok (hE : EOK G E) (b : List UInt8) (hb : b.length = 64) : valP (cfW G T E) 90 [.sl 1 (bytesV b)] = some (.ret (.agg ((sch b 64).map n32))) := by
  refine vrun 11 (m := m90) hE rfl rfl rfl rfl ?_
  simp (maxSteps := 10000000) (disch := first | assumption | omega | (simp only [List.length_map, List.length_set, List.length_replicate, List.length_drop, List.length_take, List.length_append, List.length_cons, List.length_nil, bytes_len, strs_len] <;> omega) | with_reducible exact xor8_lt _ _ | with_reducible exact or8_lt _ _ | with_reducible exact toNat_lt8 _ | with_reducible exact rowP_ok _ _ _ _ _ | with_reducible exact rowOK_nil _ _ | (apply rowOK_put <;> first | assumption | exact rowP_ok _ _ _ _ _ | omega)) only [↓rsd, rsu, ↓reduceIte, Option.map_some, Option.map_none, Option.getD_some, Option.getD_none, List.map_cons, List.map_nil, List.cons_append, List.nil_append, List.append_nil, List.getD_cons_zero, List.getD_cons_succ, List.length_cons, List.length_nil, List.getElem?_cons_zero, List.getElem?_cons_succ, List.set_cons_zero, List.set_cons_succ, Nat.reduceEqDiff, Nat.reduceBEq, Nat.reduceAdd, Nat.reduceMul, Nat.reduceSub, Int.reduceToNat, List.length_set, List.length_replicate, List.length_map, eq_self, Nat.reduceLT, Nat.reduceLeDiff, List.flatMap_cons, List.flatMap_nil, List.all_cons, List.all_nil, List.isEmpty_nil, List.isEmpty_cons, Int.reduceAdd, Int.reduceMul, Int.reduceSub, Int.reduceNeg, Int.reduceDiv, Int.reduceMod, forall_const, m90]
  refine go_loop2 11 (fun n s => ∃ i : Nat, n = 64 - i ∧ i ≤ 64 ∧ s.N = 2 ∧ s.e 0 = .sl 1 (bytesV b) ∧ s.e 2 = .ptr 0 0 ∧ s.e 3 = .ptr 1 0 ∧ s.e 11 = .int .i64 i ∧ s.o 0 = .box ((List.replicate 64 0).map n32) ∧ s.o 1 = .box ((sch b i).map n32)) 64 ?_ ?_
  · refine ⟨0, rfl, by omega, rfl, ?_⟩
    simp (maxSteps := 10000000) (disch := first | assumption | omega | (simp only [List.length_map, List.length_set, List.length_replicate, List.length_drop, List.length_take, List.length_append, List.length_cons, List.length_nil, bytes_len, strs_len] <;> omega) | with_reducible exact xor8_lt _ _ | with_reducible exact or8_lt _ _ | with_reducible exact toNat_lt8 _ | with_reducible exact rowP_ok _ _ _ _ _ | with_reducible exact rowOK_nil _ _ | (apply rowOK_put <;> first | assumption | exact rowP_ok _ _ _ _ _ | omega)) only [↓rsd, rsu, ↓reduceIte, Option.map_some, Option.map_none, Option.getD_some, Option.getD_none, List.map_cons, List.map_nil, List.cons_append, List.nil_append, List.append_nil, List.getD_cons_zero, List.getD_cons_succ, List.length_cons, List.length_nil, List.getElem?_cons_zero, List.getElem?_cons_succ, List.set_cons_zero, List.set_cons_succ, Nat.reduceEqDiff, Nat.reduceBEq, Nat.reduceAdd, Nat.reduceMul, Nat.reduceSub, Int.reduceToNat, List.length_set, List.length_replicate, List.length_map, eq_self, Nat.reduceLT, Nat.reduceLeDiff, List.flatMap_cons, List.flatMap_nil, List.all_cons, List.all_nil, List.isEmpty_nil, List.isEmpty_cons, Int.reduceAdd, Int.reduceMul, Int.reduceSub, Int.reduceNeg, Int.reduceDiv, Int.reduceMod, forall_const]
    exact ⟨rfl, rfl⟩
  · rintro n e o N ⟨t, hn, hi, rfl, e0, e2, e3, e11, o0, o1⟩
    simp only at e0 e2 e3 e11 o0 o1
    have hw := sch_len b t
    by_cases hlt : t < 64
    · by_cases h16 : t < 16
      · simp (maxSteps := 10000000) (disch := first | assumption | omega | (simp only [List.length_map, List.length_set, List.length_replicate, List.length_drop, List.length_take, List.length_append, List.length_cons, List.length_nil, bytes_len, strs_len] <;> omega) | with_reducible exact xor8_lt _ _ | with_reducible exact or8_lt _ _ | with_reducible exact toNat_lt8 _ | with_reducible exact rowP_ok _ _ _ _ _ | with_reducible exact rowOK_nil _ _ | (apply rowOK_put <;> first | assumption | exact rowP_ok _ _ _ _ _ | omega)) only [↓rsd, rsu, ↓reduceIte, Option.map_some, Option.map_none, Option.getD_some, Option.getD_none, List.map_cons, List.map_nil, List.cons_append, List.nil_append, List.append_nil, List.getD_cons_zero, List.getD_cons_succ, List.length_cons, List.length_nil, List.getElem?_cons_zero, List.getElem?_cons_succ, List.set_cons_zero, List.set_cons_succ, Nat.reduceEqDiff, Nat.reduceBEq, Nat.reduceAdd, Nat.reduceMul, Nat.reduceSub, Int.reduceToNat, List.length_set, List.length_replicate, List.length_map, eq_self, Nat.reduceLT, Nat.reduceLeDiff, List.flatMap_cons, List.flatMap_nil, List.all_cons, List.all_nil, List.isEmpty_nil, List.isEmpty_cons, Int.reduceAdd, Int.reduceMul, Int.reduceSub, Int.reduceNeg, Int.reduceDiv, Int.reduceMod, forall_const, e0, e2, e3, e11, o0, o1]
        refine go_loop2 11 (fun n s => ∃ j : Nat, n = 4 - j ∧ j ≤ 4 ∧ s.N = 2 ∧ s.e 0 = .sl 1 (bytesV b) ∧ s.e 2 = .ptr 0 0 ∧ s.e 3 = .ptr 1 0 ∧ s.e 4 = .int .i64 t ∧ s.e 11 = .int .i64 t ∧ s.e 24 = .int .i64 j ∧
          s.e 22 = .sl 1 (bytesV ((b.drop (4 * t)).take (4 * t + 4 - 4 * t))) ∧ s.e 23 = .int .i64 4 ∧ s.o 0 = .box ((List.replicate 64 0).map n32) ∧ s.o 1 = .box ((wi b t (sch b t) j).map n32)) 4 ?_ ?_
        · refine ⟨0, rfl, by omega, rfl, ?_⟩
          simp (maxSteps := 10000000) (disch := first | assumption | omega | (simp only [List.length_map, List.length_set, List.length_replicate, List.length_drop, List.length_take, List.length_append, List.length_cons, List.length_nil, bytes_len, strs_len] <;> omega) | with_reducible exact xor8_lt _ _ | with_reducible exact or8_lt _ _ | with_reducible exact toNat_lt8 _ | with_reducible exact rowP_ok _ _ _ _ _ | with_reducible exact rowOK_nil _ _ | (apply rowOK_put <;> first | assumption | exact rowP_ok _ _ _ _ _ | omega)) only [↓rsd, rsu, ↓reduceIte, Option.map_some, Option.map_none, Option.getD_some, Option.getD_none, List.map_cons, List.map_nil, List.cons_append, List.nil_append, List.append_nil, List.getD_cons_zero, List.getD_cons_succ, List.length_cons, List.length_nil, List.getElem?_cons_zero, List.getElem?_cons_succ, List.set_cons_zero, List.set_cons_succ, Nat.reduceEqDiff, Nat.reduceBEq, Nat.reduceAdd, Nat.reduceMul, Nat.reduceSub, Int.reduceToNat, List.length_set, List.length_replicate, List.length_map, eq_self, Nat.reduceLT, Nat.reduceLeDiff, List.flatMap_cons, List.flatMap_nil, List.all_cons, List.all_nil, List.isEmpty_nil, List.isEmpty_cons, Int.reduceAdd, Int.reduceMul, Int.reduceSub, Int.reduceNeg, Int.reduceDiv, Int.reduceMod, forall_const, e0, e2, e3, e11, o0, o1]
          have hl4 : ((b.drop (4 * t)).take (4 * t + 4 - 4 * t)).length = 4 := by simp; omega
          exact ⟨rfl, by rw [hl4]; rfl, rfl⟩
        · clear e0 e2 e3 e11 o0 o1
          rintro n' e o N ⟨j, hn', hj, rfl, e0, e2, e3, e4, e11, e24, e22, e23, o0, o1⟩
          simp only at e0 e2 e3 e4 e11 e24 e22 e23 o0 o1
          have hwi := wi_len b t (sch b t) j
          have hl4 : ((b.drop (4 * t)).take (4 * t + 4 - 4 * t)).length = 4 := by simp; omega
          by_cases hjl : j < 4
          · simp (maxSteps := 10000000) (disch := first | assumption | omega | (simp only [List.length_map, List.length_set, List.length_replicate, List.length_drop, List.length_take, List.length_append, List.length_cons, List.length_nil, bytes_len, strs_len] <;> omega) | with_reducible exact xor8_lt _ _ | with_reducible exact or8_lt _ _ | with_reducible exact toNat_lt8 _ | with_reducible exact rowP_ok _ _ _ _ _ | with_reducible exact rowOK_nil _ _ | (apply rowOK_put <;> first | assumption | exact rowP_ok _ _ _ _ _ | omega)) only [↓rsd, rsu, ↓reduceIte, Option.map_some, Option.map_none, Option.getD_some, Option.getD_none, List.map_cons, List.map_nil, List.cons_append, List.nil_append, List.append_nil, List.getD_cons_zero, List.getD_cons_succ, List.length_cons, List.length_nil, List.getElem?_cons_zero, List.getElem?_cons_succ, List.set_cons_zero, List.set_cons_succ, Nat.reduceEqDiff, Nat.reduceBEq, Nat.reduceAdd, Nat.reduceMul, Nat.reduceSub, Int.reduceToNat, List.length_set, List.length_replicate, List.length_map, eq_self, Nat.reduceLT, Nat.reduceLeDiff, List.flatMap_cons, List.flatMap_nil, List.all_cons, List.all_nil, List.isEmpty_nil, List.isEmpty_cons, Int.reduceAdd, Int.reduceMul, Int.reduceSub, Int.reduceNeg, Int.reduceDiv, Int.reduceMod, forall_const, e0, e2, e3, e4, e11, e24, e22, e23, o0, o1, m32_8]
            exact ⟨_, by omega, j + 1, rfl, by omega, rfl, rfl⟩
          · simp (maxSteps := 10000000) (disch := first | assumption | omega | (simp only [List.length_map, List.length_set, List.length_replicate, List.length_drop, List.length_take, List.length_append, List.length_cons, List.length_nil, bytes_len, strs_len] <;> omega) | with_reducible exact xor8_lt _ _ | with_reducible exact or8_lt _ _ | with_reducible exact toNat_lt8 _ | with_reducible exact rowP_ok _ _ _ _ _ | with_reducible exact rowOK_nil _ _ | (apply rowOK_put <;> first | assumption | exact rowP_ok _ _ _ _ _ | omega)) only [↓rsd, rsu, ↓reduceIte, Option.map_some, Option.map_none, Option.getD_some, Option.getD_none, List.map_cons, List.map_nil, List.cons_append, List.nil_append, List.append_nil, List.getD_cons_zero, List.getD_cons_succ, List.length_cons, List.length_nil, List.getElem?_cons_zero, List.getElem?_cons_succ, List.set_cons_zero, List.set_cons_succ, Nat.reduceEqDiff, Nat.reduceBEq, Nat.reduceAdd, Nat.reduceMul, Nat.reduceSub, Int.reduceToNat, List.length_set, List.length_replicate, List.length_map, eq_self, Nat.reduceLT, Nat.reduceLeDiff, List.flatMap_cons, List.flatMap_nil, List.all_cons, List.all_nil, List.isEmpty_nil, List.isEmpty_cons, Int.reduceAdd, Int.reduceMul, Int.reduceSub, Int.reduceNeg, Int.reduceDiv, Int.reduceMod, forall_const, e0, e2, e3, e4, e11, e24, e22, e23, o0, o1]
            have h4 : j = 4 := by omega
            subst h4
            refine ⟨_, by omega, t + 1, rfl, by omega, rfl, ?_⟩
            simp only [sch, if_pos h16]
      · simp (maxSteps := 10000000) (disch := first | assumption | omega | (simp only [List.length_map, List.length_set, List.length_replicate, List.length_drop, List.length_take, List.length_append, List.length_cons, List.length_nil, bytes_len, strs_len] <;> omega) | with_reducible exact xor8_lt _ _ | with_reducible exact or8_lt _ _ | with_reducible exact toNat_lt8 _ | with_reducible exact rowP_ok _ _ _ _ _ | with_reducible exact rowOK_nil _ _ | (apply rowOK_put <;> first | assumption | exact rowP_ok _ _ _ _ _ | omega)) only [↓rsd, rsu, ↓reduceIte, Option.map_some, Option.map_none, Option.getD_some, Option.getD_none, List.map_cons, List.map_nil, List.cons_append, List.nil_append, List.append_nil, List.getD_cons_zero, List.getD_cons_succ, List.length_cons, List.length_nil, List.getElem?_cons_zero, List.getElem?_cons_succ, List.set_cons_zero, List.set_cons_succ, Nat.reduceEqDiff, Nat.reduceBEq, Nat.reduceAdd, Nat.reduceMul, Nat.reduceSub, Int.reduceToNat, List.length_set, List.length_replicate, List.length_map, eq_self, Nat.reduceLT, Nat.reduceLeDiff, List.flatMap_cons, List.flatMap_nil, List.all_cons, List.all_nil, List.isEmpty_nil, List.isEmpty_cons, Int.reduceAdd, Int.reduceMul, Int.reduceSub, Int.reduceNeg, Int.reduceDiv, Int.reduceMod, forall_const, e0, e2, e3, e11, o0, o1, rotl_ok hE]
        refine ⟨_, by omega, t + 1, rfl, by omega, rfl, ?_⟩
        simp only [sch, if_neg h16]
        rfl
    · simp (maxSteps := 10000000) (disch := first | assumption | omega | (simp only [List.length_map, List.length_set, List.length_replicate, List.length_drop, List.length_take, List.length_append, List.length_cons, List.length_nil, bytes_len, strs_len] <;> omega) | with_reducible exact xor8_lt _ _ | with_reducible exact or8_lt _ _ | with_reducible exact toNat_lt8 _ | with_reducible exact rowP_ok _ _ _ _ _ | with_reducible exact rowOK_nil _ _ | (apply rowOK_put <;> first | assumption | exact rowP_ok _ _ _ _ _ | omega)) only [↓rsd, rsu, ↓reduceIte, Option.map_some, Option.map_none, Option.getD_some, Option.getD_none, List.map_cons, List.map_nil, List.cons_append, List.nil_append, List.append_nil, List.getD_cons_zero, List.getD_cons_succ, List.length_cons, List.length_nil, List.getElem?_cons_zero, List.getElem?_cons_succ, List.set_cons_zero, List.set_cons_succ, Nat.reduceEqDiff, Nat.reduceBEq, Nat.reduceAdd, Nat.reduceMul, Nat.reduceSub, Int.reduceToNat, List.length_set, List.length_replicate, List.length_map, eq_self, Nat.reduceLT, Nat.reduceLeDiff, List.flatMap_cons, List.flatMap_nil, List.all_cons, List.all_nil, List.isEmpty_nil, List.isEmpty_cons, Int.reduceAdd, Int.reduceMul, Int.reduceSub, Int.reduceNeg, Int.reduceDiv, Int.reduceMod, forall_const, e0, e2, e3, e11, o0, o1]
      have h64 : t = 64 := by omega
      subst h64
      rfl
end Go.Proofs.YtoccgkgdhobmfaaDoor.Am.Ru

set_option maxRecDepth 100000
set_option linter.unusedSimpArgs false
namespace Go.Proofs.YtoccgkgdhobmfaaDoor.Am.Ru
open Go
variable {G : Nat → Option (List V)} {E : Nat → Option (CallFn → List V → Hp → Nat → Option Out)}

/-- One round of the compression. -/
def rx (k w e f g h : Nat) : Nat := add32 (add32 (add32 (add32 h (mix e 6 11 25)) (xor32 (and32 e f) (and32 (not32 e) g))) k) w
def ry (a b c : Nat) : Nat := add32 (mix a 2 13 22) (xor32 (xor32 (and32 a b) (and32 a c)) (and32 b c))
def rnd (k w : Nat) : List Nat → List Nat
  | [a, b, c, d, e, f, g, h] => [add32 (rx k w e f g h) (ry a b c), a, b, c, add32 d (rx k w e f g h), e, f, g]
  | l => l
def rounds (W : List Nat) (S : List Nat) : Nat → List Nat
  | 0 => S
  | t + 1 => rnd (KL.getD t 0) (W.getD t 0) (rounds W S t)
def addL : List Nat → List Nat → List Nat
  | a :: l, b :: r => add32 a b :: addL l r
  | _, _ => []
def cmpr (W S : List Nat) : List Nat := addL S (rounds W S 64)

set_option maxHeartbeats 4000000 in
theorem compress_ok (hE : EOK G E) (s0 s1 s2 s3 s4 s5 s6 s7 : Nat) (b : List UInt8) (hb : b.length = 64) :
    valP (cfW G T E) 50 [.agg ([s0, s1, s2, s3, s4, s5, s6, s7].map n32), .sl 1 (bytesV b)] = some (.ret (.agg ((cmpr (sch b 64) [s0, s1, s2, s3, s4, s5, s6, s7]).map n32))) := by
  have hsl := sch_len b 64
  have hkl := KL_len
  refine vrun 13 (m := m50) hE rfl rfl rfl rfl ?_
  simp (maxSteps := 10000000) (disch := first | assumption | omega | (simp only [List.length_map, List.length_set, List.length_replicate, List.length_drop, List.length_take, List.length_append, List.length_cons, List.length_nil, bytes_len, strs_len] <;> omega) | with_reducible exact xor8_lt _ _ | with_reducible exact or8_lt _ _ | with_reducible exact toNat_lt8 _ | with_reducible exact rowP_ok _ _ _ _ _ | with_reducible exact rowOK_nil _ _ | (apply rowOK_put <;> first | assumption | exact rowP_ok _ _ _ _ _ | omega)) only [↓rsd, rsu, ↓reduceIte, Option.map_some, Option.map_none, Option.getD_some, Option.getD_none, List.map_cons, List.map_nil, List.cons_append, List.nil_append, List.append_nil, List.getD_cons_zero, List.getD_cons_succ, List.length_cons, List.length_nil, List.getElem?_cons_zero, List.getElem?_cons_succ, List.set_cons_zero, List.set_cons_succ, Nat.reduceEqDiff, Nat.reduceBEq, Nat.reduceAdd, Nat.reduceMul, Nat.reduceSub, Int.reduceToNat, List.length_set, List.length_replicate, List.length_map, eq_self, Nat.reduceLT, Nat.reduceLeDiff, List.flatMap_cons, List.flatMap_nil, List.all_cons, List.all_nil, List.isEmpty_nil, List.isEmpty_cons, Int.reduceAdd, Int.reduceMul, Int.reduceSub, Int.reduceNeg, Int.reduceDiv, Int.reduceMod, forall_const, m50, schedule_ok hE b hb, hE.g1]
  refine go_loop2 13 (fun n s => ∃ t a b' c d e f g h : Nat, n = 64 - t ∧ t ≤ 64 ∧ rounds (sch b 64) [s0, s1, s2, s3, s4, s5, s6, s7] t = [a, b', c, d, e, f, g, h] ∧ s.N = 5 ∧ s.e 2 = .ptr 0 0 ∧ s.e 4 = .ptr 1 0 ∧ s.e 5 = .ptr 2 0 ∧ s.e 6 = .ptr 3 0 ∧ s.e 7 = .ptr 4 0 ∧
     s.e 21 = .agg (KL.map n32) ∧ s.e 22 = .int .i64 t ∧ s.o 0 = .box [.int .u32 s0, .int .u32 s1, .int .u32 s2, .int .u32 s3, .int .u32 s4, .int .u32 s5, .int .u32 s6, .int .u32 s7] ∧ s.o 1 = .box ((List.replicate 8 0).map n32) ∧ s.o 2 = .box ((sch b 64).map n32) ∧
     s.o 3 = .box [.int .u32 a, .int .u32 b', .int .u32 c, .int .u32 d] ∧ s.o 4 = .box [.int .u32 e, .int .u32 f, .int .u32 g, .int .u32 h]) 64 ?_ ?_
  · refine ⟨0, s0, s1, s2, s3, s4, s5, s6, s7, rfl, by omega, rfl, rfl, ?_⟩
    simp (maxSteps := 10000000) (disch := first | assumption | omega | (simp only [List.length_map, List.length_set, List.length_replicate, List.length_drop, List.length_take, List.length_append, List.length_cons, List.length_nil, bytes_len, strs_len] <;> omega) | with_reducible exact xor8_lt _ _ | with_reducible exact or8_lt _ _ | with_reducible exact toNat_lt8 _ | with_reducible exact rowP_ok _ _ _ _ _ | with_reducible exact rowOK_nil _ _ | (apply rowOK_put <;> first | assumption | exact rowP_ok _ _ _ _ _ | omega)) only [↓rsd, rsu, ↓reduceIte, Option.map_some, Option.map_none, Option.getD_some, Option.getD_none, List.map_cons, List.map_nil, List.cons_append, List.nil_append, List.append_nil, List.getD_cons_zero, List.getD_cons_succ, List.length_cons, List.length_nil, List.getElem?_cons_zero, List.getElem?_cons_succ, List.set_cons_zero, List.set_cons_succ, Nat.reduceEqDiff, Nat.reduceBEq, Nat.reduceAdd, Nat.reduceMul, Nat.reduceSub, Int.reduceToNat, List.length_set, List.length_replicate, List.length_map, eq_self, Nat.reduceLT, Nat.reduceLeDiff, List.flatMap_cons, List.flatMap_nil, List.all_cons, List.all_nil, List.isEmpty_nil, List.isEmpty_cons, Int.reduceAdd, Int.reduceMul, Int.reduceSub, Int.reduceNeg, Int.reduceDiv, Int.reduceMod, forall_const]
    rfl
  · rintro n e' o N ⟨t, a, b', c, d, e, f, g, h, hn, hi, hr, rfl, e2, e4, e5, e6, e7, e21, e22, o0, o1, o2, o3, o4⟩
    simp only at e2 e4 e5 e6 e7 e21 e22 o0 o1 o2 o3 o4
    by_cases hlt : t < 64
    · simp (maxSteps := 10000000) (disch := first | assumption | omega | (simp only [List.length_map, List.length_set, List.length_replicate, List.length_drop, List.length_take, List.length_append, List.length_cons, List.length_nil, bytes_len, strs_len] <;> omega) | with_reducible exact xor8_lt _ _ | with_reducible exact or8_lt _ _ | with_reducible exact toNat_lt8 _ | with_reducible exact rowP_ok _ _ _ _ _ | with_reducible exact rowOK_nil _ _ | (apply rowOK_put <;> first | assumption | exact rowP_ok _ _ _ _ _ | omega)) only [↓rsd, rsu, ↓reduceIte, Option.map_some, Option.map_none, Option.getD_some, Option.getD_none, List.map_cons, List.map_nil, List.cons_append, List.nil_append, List.append_nil, List.getD_cons_zero, List.getD_cons_succ, List.length_cons, List.length_nil, List.getElem?_cons_zero, List.getElem?_cons_succ, List.set_cons_zero, List.set_cons_succ, Nat.reduceEqDiff, Nat.reduceBEq, Nat.reduceAdd, Nat.reduceMul, Nat.reduceSub, Int.reduceToNat, List.length_set, List.length_replicate, List.length_map, eq_self, Nat.reduceLT, Nat.reduceLeDiff, List.flatMap_cons, List.flatMap_nil, List.all_cons, List.all_nil, List.isEmpty_nil, List.isEmpty_cons, Int.reduceAdd, Int.reduceMul, Int.reduceSub, Int.reduceNeg, Int.reduceDiv, Int.reduceMod, forall_const, e2, e4, e5, e6, e7, e21, e22, o0, o1, o2, o3, o4, mix_ok hE]
      refine ⟨_, ?_, t + 1, _, _, _, _, _, _, _, _, rfl, ?_, ?_, rfl, rfl, rfl⟩
      · omega
      · omega
      · rw [rounds, hr]; rfl
    · simp (maxSteps := 10000000) (disch := first | assumption | omega | (simp only [List.length_map, List.length_set, List.length_replicate, List.length_drop, List.length_take, List.length_append, List.length_cons, List.length_nil, bytes_len, strs_len] <;> omega) | with_reducible exact xor8_lt _ _ | with_reducible exact or8_lt _ _ | with_reducible exact toNat_lt8 _ | with_reducible exact rowP_ok _ _ _ _ _ | with_reducible exact rowOK_nil _ _ | (apply rowOK_put <;> first | assumption | exact rowP_ok _ _ _ _ _ | omega)) only [↓rsd, rsu, ↓reduceIte, Option.map_some, Option.map_none, Option.getD_some, Option.getD_none, List.map_cons, List.map_nil, List.cons_append, List.nil_append, List.append_nil, List.getD_cons_zero, List.getD_cons_succ, List.length_cons, List.length_nil, List.getElem?_cons_zero, List.getElem?_cons_succ, List.set_cons_zero, List.set_cons_succ, Nat.reduceEqDiff, Nat.reduceBEq, Nat.reduceAdd, Nat.reduceMul, Nat.reduceSub, Int.reduceToNat, List.length_set, List.length_replicate, List.length_map, eq_self, Nat.reduceLT, Nat.reduceLeDiff, List.flatMap_cons, List.flatMap_nil, List.all_cons, List.all_nil, List.isEmpty_nil, List.isEmpty_cons, Int.reduceAdd, Int.reduceMul, Int.reduceSub, Int.reduceNeg, Int.reduceDiv, Int.reduceMod, forall_const, e2, e4, e5, e6, e7, e21, e22, o0, o1, o2, o3, o4]
      have h64 : t = 64 := by omega
      subst h64
      refine go_once ?_
      simp (maxSteps := 10000000) (disch := first | assumption | omega | (simp only [List.length_map, List.length_set, List.length_replicate, List.length_drop, List.length_take, List.length_append, List.length_cons, List.length_nil, bytes_len, strs_len] <;> omega) | with_reducible exact xor8_lt _ _ | with_reducible exact or8_lt _ _ | with_reducible exact toNat_lt8 _ | with_reducible exact rowP_ok _ _ _ _ _ | with_reducible exact rowOK_nil _ _ | (apply rowOK_put <;> first | assumption | exact rowP_ok _ _ _ _ _ | omega)) only [↓rsd, rsu, ↓reduceIte, Option.map_some, Option.map_none, Option.getD_some, Option.getD_none, List.map_cons, List.map_nil, List.cons_append, List.nil_append, List.append_nil, List.getD_cons_zero, List.getD_cons_succ, List.length_cons, List.length_nil, List.getElem?_cons_zero, List.getElem?_cons_succ, List.set_cons_zero, List.set_cons_succ, Nat.reduceEqDiff, Nat.reduceBEq, Nat.reduceAdd, Nat.reduceMul, Nat.reduceSub, Int.reduceToNat, List.length_set, List.length_replicate, List.length_map, eq_self, Nat.reduceLT, Nat.reduceLeDiff, List.flatMap_cons, List.flatMap_nil, List.all_cons, List.all_nil, List.isEmpty_nil, List.isEmpty_cons, Int.reduceAdd, Int.reduceMul, Int.reduceSub, Int.reduceNeg, Int.reduceDiv, Int.reduceMod, forall_const, e2, e4, e5, e6, e7, e21, e22, o0, o1, o2, o3, o4]
      refine go_once ?_
      simp (maxSteps := 10000000) (disch := first | assumption | omega | (simp only [List.length_map, List.length_set, List.length_replicate, List.length_drop, List.length_take, List.length_append, List.length_cons, List.length_nil, bytes_len, strs_len] <;> omega) | with_reducible exact xor8_lt _ _ | with_reducible exact or8_lt _ _ | with_reducible exact toNat_lt8 _ | with_reducible exact rowP_ok _ _ _ _ _ | with_reducible exact rowOK_nil _ _ | (apply rowOK_put <;> first | assumption | exact rowP_ok _ _ _ _ _ | omega)) only [↓rsd, rsu, ↓reduceIte, Option.map_some, Option.map_none, Option.getD_some, Option.getD_none, List.map_cons, List.map_nil, List.cons_append, List.nil_append, List.append_nil, List.getD_cons_zero, List.getD_cons_succ, List.length_cons, List.length_nil, List.getElem?_cons_zero, List.getElem?_cons_succ, List.set_cons_zero, List.set_cons_succ, Nat.reduceEqDiff, Nat.reduceBEq, Nat.reduceAdd, Nat.reduceMul, Nat.reduceSub, Int.reduceToNat, List.length_set, List.length_replicate, List.length_map, eq_self, Nat.reduceLT, Nat.reduceLeDiff, List.flatMap_cons, List.flatMap_nil, List.all_cons, List.all_nil, List.isEmpty_nil, List.isEmpty_cons, Int.reduceAdd, Int.reduceMul, Int.reduceSub, Int.reduceNeg, Int.reduceDiv, Int.reduceMod, forall_const, e2, e4, e5, e6, e7, e21, e22, o0, o1, o2, o3, o4]
      refine go_once ?_
      simp (maxSteps := 10000000) (disch := first | assumption | omega | (simp only [List.length_map, List.length_set, List.length_replicate, List.length_drop, List.length_take, List.length_append, List.length_cons, List.length_nil, bytes_len, strs_len] <;> omega) | with_reducible exact xor8_lt _ _ | with_reducible exact or8_lt _ _ | with_reducible exact toNat_lt8 _ | with_reducible exact rowP_ok _ _ _ _ _ | with_reducible exact rowOK_nil _ _ | (apply rowOK_put <;> first | assumption | exact rowP_ok _ _ _ _ _ | omega)) only [↓rsd, rsu, ↓reduceIte, Option.map_some, Option.map_none, Option.getD_some, Option.getD_none, List.map_cons, List.map_nil, List.cons_append, List.nil_append, List.append_nil, List.getD_cons_zero, List.getD_cons_succ, List.length_cons, List.length_nil, List.getElem?_cons_zero, List.getElem?_cons_succ, List.set_cons_zero, List.set_cons_succ, Nat.reduceEqDiff, Nat.reduceBEq, Nat.reduceAdd, Nat.reduceMul, Nat.reduceSub, Int.reduceToNat, List.length_set, List.length_replicate, List.length_map, eq_self, Nat.reduceLT, Nat.reduceLeDiff, List.flatMap_cons, List.flatMap_nil, List.all_cons, List.all_nil, List.isEmpty_nil, List.isEmpty_cons, Int.reduceAdd, Int.reduceMul, Int.reduceSub, Int.reduceNeg, Int.reduceDiv, Int.reduceMod, forall_const, e2, e4, e5, e6, e7, e21, e22, o0, o1, o2, o3, o4]
      refine go_once ?_
      simp (maxSteps := 10000000) (disch := first | assumption | omega | (simp only [List.length_map, List.length_set, List.length_replicate, List.length_drop, List.length_take, List.length_append, List.length_cons, List.length_nil, bytes_len, strs_len] <;> omega) | with_reducible exact xor8_lt _ _ | with_reducible exact or8_lt _ _ | with_reducible exact toNat_lt8 _ | with_reducible exact rowP_ok _ _ _ _ _ | with_reducible exact rowOK_nil _ _ | (apply rowOK_put <;> first | assumption | exact rowP_ok _ _ _ _ _ | omega)) only [↓rsd, rsu, ↓reduceIte, Option.map_some, Option.map_none, Option.getD_some, Option.getD_none, List.map_cons, List.map_nil, List.cons_append, List.nil_append, List.append_nil, List.getD_cons_zero, List.getD_cons_succ, List.length_cons, List.length_nil, List.getElem?_cons_zero, List.getElem?_cons_succ, List.set_cons_zero, List.set_cons_succ, Nat.reduceEqDiff, Nat.reduceBEq, Nat.reduceAdd, Nat.reduceMul, Nat.reduceSub, Int.reduceToNat, List.length_set, List.length_replicate, List.length_map, eq_self, Nat.reduceLT, Nat.reduceLeDiff, List.flatMap_cons, List.flatMap_nil, List.all_cons, List.all_nil, List.isEmpty_nil, List.isEmpty_cons, Int.reduceAdd, Int.reduceMul, Int.reduceSub, Int.reduceNeg, Int.reduceDiv, Int.reduceMod, forall_const, e2, e4, e5, e6, e7, e21, e22, o0, o1, o2, o3, o4]
      refine go_once ?_
      simp (maxSteps := 10000000) (disch := first | assumption | omega | (simp only [List.length_map, List.length_set, List.length_replicate, List.length_drop, List.length_take, List.length_append, List.length_cons, List.length_nil, bytes_len, strs_len] <;> omega) | with_reducible exact xor8_lt _ _ | with_reducible exact or8_lt _ _ | with_reducible exact toNat_lt8 _ | with_reducible exact rowP_ok _ _ _ _ _ | with_reducible exact rowOK_nil _ _ | (apply rowOK_put <;> first | assumption | exact rowP_ok _ _ _ _ _ | omega)) only [↓rsd, rsu, ↓reduceIte, Option.map_some, Option.map_none, Option.getD_some, Option.getD_none, List.map_cons, List.map_nil, List.cons_append, List.nil_append, List.append_nil, List.getD_cons_zero, List.getD_cons_succ, List.length_cons, List.length_nil, List.getElem?_cons_zero, List.getElem?_cons_succ, List.set_cons_zero, List.set_cons_succ, Nat.reduceEqDiff, Nat.reduceBEq, Nat.reduceAdd, Nat.reduceMul, Nat.reduceSub, Int.reduceToNat, List.length_set, List.length_replicate, List.length_map, eq_self, Nat.reduceLT, Nat.reduceLeDiff, List.flatMap_cons, List.flatMap_nil, List.all_cons, List.all_nil, List.isEmpty_nil, List.isEmpty_cons, Int.reduceAdd, Int.reduceMul, Int.reduceSub, Int.reduceNeg, Int.reduceDiv, Int.reduceMod, forall_const, e2, e4, e5, e6, e7, e21, e22, o0, o1, o2, o3, o4]
      rw [cmpr, hr]
      rfl
end Go.Proofs.YtoccgkgdhobmfaaDoor.Am.Ru

set_option maxRecDepth 100000
set_option linter.unusedSimpArgs false
namespace Go.Proofs.YtoccgkgdhobmfaaDoor.Am.Ru
open Go
variable {G : Nat → Option (List V)} {E : Nat → Option (CallFn → List V → Hp → Nat → Option Out)}

/-- How many zeros come behind a message of a length, and its first further byte. -/
def zpad (l : Nat) : Nat := (119 - l % 64) % 64
theorem zpad_lt (l : Nat) : zpad l < 64 := Nat.mod_lt _ (by decide)
theorem zpad_end (l : Nat) : (l + 1 + zpad l) % 64 = 56 := by unfold zpad; omega
theorem zpad_go (l i : Nat) (h : i < zpad l) : (l + 1 + i) % 64 ≠ 56 := by unfold zpad at h; omega
/-- The eight bytes of a number. -/
def len8 (n : Nat) : Nat → List UInt8
  | 0 => []
  | i + 1 => len8 n i ++ [UInt8.ofNat (shr64u n (56 - 8 * i) % 256)]
theorem len8_len (n i : Nat) : (len8 n i).length = i := by
  induction i with
  | zero => rfl
  | succ i ih => simp [len8, ih]
def pads (l : Nat) : List UInt8 := 128 :: List.replicate (zpad l) 0
def bits (l : Nat) : Nat := mul64u 8 (l % 18446744073709551616)
def padded (b : List UInt8) : List UInt8 := b ++ (128 :: List.replicate (zpad b.length) 0) ++ len8 (bits b.length) 8

theorem padded_ok (hE : EOK G E) (b : List UInt8) (hb : b.length ≤ 1000000) : valP (cfW G T E) 47 [.sl 1 (bytesV b)] = some (.ret (.own 1 (bytesV (padded b)))) := by
  refine vrun 6 (m := m47) hE rfl rfl rfl rfl ?_
  have hz := zpad_lt b.length
  simp (maxSteps := 10000000) (disch := first | assumption | omega | (simp only [List.length_map, List.length_set, List.length_replicate, List.length_drop, List.length_take, List.length_append, List.length_cons, List.length_nil, bytes_len, strs_len] <;> omega) | with_reducible exact xor8_lt _ _ | with_reducible exact or8_lt _ _ | with_reducible exact toNat_lt8 _ | with_reducible exact rowP_ok _ _ _ _ _ | with_reducible exact rowOK_nil _ _ | (apply rowOK_put <;> first | assumption | exact rowP_ok _ _ _ _ _ | omega)) only [↓rsd, rsu, ↓reduceIte, Option.map_some, Option.map_none, Option.getD_some, Option.getD_none, List.map_cons, List.map_nil, List.cons_append, List.nil_append, List.append_nil, List.getD_cons_zero, List.getD_cons_succ, List.length_cons, List.length_nil, List.getElem?_cons_zero, List.getElem?_cons_succ, List.set_cons_zero, List.set_cons_succ, Nat.reduceEqDiff, Nat.reduceBEq, Nat.reduceAdd, Nat.reduceMul, Nat.reduceSub, Int.reduceToNat, List.length_set, List.length_replicate, List.length_map, eq_self, Nat.reduceLT, Nat.reduceLeDiff, List.flatMap_cons, List.flatMap_nil, List.all_cons, List.all_nil, List.isEmpty_nil, List.isEmpty_cons, Int.reduceAdd, Int.reduceMul, Int.reduceSub, Int.reduceNeg, Int.reduceDiv, Int.reduceMod, forall_const, m47]
  refine go_loop2 6 (fun n s => ∃ i j : Nat, n = zpad b.length - i ∧ i ≤ zpad b.length ∧ j < s.N ∧ s.e 0 = .sl 1 (bytesV b) ∧ s.e 3 = .vsl j 0 (b.length + 1 + i) ∧ s.o j = .vec 1 (bytesV (b ++ (128 :: List.replicate i 0)))) (zpad b.length) ?_ ?_
  · refine ⟨0, 2, rfl, by omega, ?_⟩
    simp (maxSteps := 10000000) (disch := first | assumption | omega | (simp only [List.length_map, List.length_set, List.length_replicate, List.length_drop, List.length_take, List.length_append, List.length_cons, List.length_nil, bytes_len, strs_len] <;> omega) | with_reducible exact xor8_lt _ _ | with_reducible exact or8_lt _ _ | with_reducible exact toNat_lt8 _ | with_reducible exact rowP_ok _ _ _ _ _ | with_reducible exact rowOK_nil _ _ | (apply rowOK_put <;> first | assumption | exact rowP_ok _ _ _ _ _ | omega)) only [↓rsd, rsu, ↓reduceIte, Option.map_some, Option.map_none, Option.getD_some, Option.getD_none, List.map_cons, List.map_nil, List.cons_append, List.nil_append, List.append_nil, List.getD_cons_zero, List.getD_cons_succ, List.length_cons, List.length_nil, List.getElem?_cons_zero, List.getElem?_cons_succ, List.set_cons_zero, List.set_cons_succ, Nat.reduceEqDiff, Nat.reduceBEq, Nat.reduceAdd, Nat.reduceMul, Nat.reduceSub, Int.reduceToNat, List.length_set, List.length_replicate, List.length_map, eq_self, Nat.reduceLT, Nat.reduceLeDiff, List.flatMap_cons, List.flatMap_nil, List.all_cons, List.all_nil, List.isEmpty_nil, List.isEmpty_cons, Int.reduceAdd, Int.reduceMul, Int.reduceSub, Int.reduceNeg, Int.reduceDiv, Int.reduceMod, forall_const]
    rfl
  · rintro n e o N ⟨i, j, hn, hi, hj, e0, e3, oj⟩
    simp only at hj e0 e3 oj
    have hl : (b ++ (128 :: List.replicate i 0)).length = b.length + 1 + i := by simp; omega
    by_cases hlt : i < zpad b.length
    · have h56 := zpad_go b.length i hlt
      simp (maxSteps := 10000000) (disch := first | assumption | omega | (simp only [List.length_map, List.length_set, List.length_replicate, List.length_drop, List.length_take, List.length_append, List.length_cons, List.length_nil, bytes_len, strs_len] <;> omega) | with_reducible exact xor8_lt _ _ | with_reducible exact or8_lt _ _ | with_reducible exact toNat_lt8 _ | with_reducible exact rowP_ok _ _ _ _ _ | with_reducible exact rowOK_nil _ _ | (apply rowOK_put <;> first | assumption | exact rowP_ok _ _ _ _ _ | omega)) only [↓rsd, rsu, ↓reduceIte, Option.map_some, Option.map_none, Option.getD_some, Option.getD_none, List.map_cons, List.map_nil, List.cons_append, List.nil_append, List.append_nil, List.getD_cons_zero, List.getD_cons_succ, List.length_cons, List.length_nil, List.getElem?_cons_zero, List.getElem?_cons_succ, List.set_cons_zero, List.set_cons_succ, Nat.reduceEqDiff, Nat.reduceBEq, Nat.reduceAdd, Nat.reduceMul, Nat.reduceSub, Int.reduceToNat, List.length_set, List.length_replicate, List.length_map, eq_self, Nat.reduceLT, Nat.reduceLeDiff, List.flatMap_cons, List.flatMap_nil, List.all_cons, List.all_nil, List.isEmpty_nil, List.isEmpty_cons, Int.reduceAdd, Int.reduceMul, Int.reduceSub, Int.reduceNeg, Int.reduceDiv, Int.reduceMod, forall_const, e0, e3, oj]
      refine ⟨_, by omega, i + 1, N, rfl, by omega, by omega, rfl, ?_⟩
      rw [if_pos rfl, List.replicate_succ']
      simp
    · have h56 := zpad_end b.length
      have hiz : i = zpad b.length := by omega
      rw [hiz] at e3 oj hl
      simp (maxSteps := 10000000) (disch := first | assumption | omega | (simp only [List.length_map, List.length_set, List.length_replicate, List.length_drop, List.length_take, List.length_append, List.length_cons, List.length_nil, bytes_len, strs_len] <;> omega) | with_reducible exact xor8_lt _ _ | with_reducible exact or8_lt _ _ | with_reducible exact toNat_lt8 _ | with_reducible exact rowP_ok _ _ _ _ _ | with_reducible exact rowOK_nil _ _ | (apply rowOK_put <;> first | assumption | exact rowP_ok _ _ _ _ _ | omega)) only [↓rsd, rsu, ↓reduceIte, Option.map_some, Option.map_none, Option.getD_some, Option.getD_none, List.map_cons, List.map_nil, List.cons_append, List.nil_append, List.append_nil, List.getD_cons_zero, List.getD_cons_succ, List.length_cons, List.length_nil, List.getElem?_cons_zero, List.getElem?_cons_succ, List.set_cons_zero, List.set_cons_succ, Nat.reduceEqDiff, Nat.reduceBEq, Nat.reduceAdd, Nat.reduceMul, Nat.reduceSub, Int.reduceToNat, List.length_set, List.length_replicate, List.length_map, eq_self, Nat.reduceLT, Nat.reduceLeDiff, List.flatMap_cons, List.flatMap_nil, List.all_cons, List.all_nil, List.isEmpty_nil, List.isEmpty_cons, Int.reduceAdd, Int.reduceMul, Int.reduceSub, Int.reduceNeg, Int.reduceDiv, Int.reduceMod, forall_const, e0, e3, oj]
      refine go_loop2 6 (fun n s => ∃ i j : Nat, n = 8 - i ∧ i ≤ 8 ∧ j < s.N ∧ s.e 3 = .vsl j 0 (b.length + 1 + zpad b.length + i) ∧ s.e 4 = .int .u64 (bits b.length : Nat) ∧ s.e 5 = .int .i64 i ∧
        s.o j = .vec 1 (bytesV (b ++ (128 :: List.replicate (zpad b.length) 0) ++ len8 (bits b.length) i))) 8 ?_ ?_
      · refine ⟨0, j, rfl, by omega, hj, ?_⟩
        simp (maxSteps := 10000000) (disch := first | assumption | omega | (simp only [List.length_map, List.length_set, List.length_replicate, List.length_drop, List.length_take, List.length_append, List.length_cons, List.length_nil, bytes_len, strs_len] <;> omega) | with_reducible exact xor8_lt _ _ | with_reducible exact or8_lt _ _ | with_reducible exact toNat_lt8 _ | with_reducible exact rowP_ok _ _ _ _ _ | with_reducible exact rowOK_nil _ _ | (apply rowOK_put <;> first | assumption | exact rowP_ok _ _ _ _ _ | omega)) only [↓rsd, rsu, ↓reduceIte, Option.map_some, Option.map_none, Option.getD_some, Option.getD_none, List.map_cons, List.map_nil, List.cons_append, List.nil_append, List.append_nil, List.getD_cons_zero, List.getD_cons_succ, List.length_cons, List.length_nil, List.getElem?_cons_zero, List.getElem?_cons_succ, List.set_cons_zero, List.set_cons_succ, Nat.reduceEqDiff, Nat.reduceBEq, Nat.reduceAdd, Nat.reduceMul, Nat.reduceSub, Int.reduceToNat, List.length_set, List.length_replicate, List.length_map, eq_self, Nat.reduceLT, Nat.reduceLeDiff, List.flatMap_cons, List.flatMap_nil, List.all_cons, List.all_nil, List.isEmpty_nil, List.isEmpty_cons, Int.reduceAdd, Int.reduceMul, Int.reduceSub, Int.reduceNeg, Int.reduceDiv, Int.reduceMod, forall_const, e3, oj, len8]
        exact ⟨rfl, rfl⟩
      · clear e0 e3 oj hj hlt h56 hiz hn hi
        rintro n e o N ⟨i, j, hn, hi, hj, e3, e4, e5, oj⟩
        simp only at hj e3 e4 e5 oj
        have hl8 := len8_len (bits b.length) i
        by_cases hlt : i < 8
        · simp (maxSteps := 10000000) (disch := first | assumption | omega | (simp only [List.length_map, List.length_set, List.length_replicate, List.length_drop, List.length_take, List.length_append, List.length_cons, List.length_nil, bytes_len, strs_len] <;> omega) | with_reducible exact xor8_lt _ _ | with_reducible exact or8_lt _ _ | with_reducible exact toNat_lt8 _ | with_reducible exact rowP_ok _ _ _ _ _ | with_reducible exact rowOK_nil _ _ | (apply rowOK_put <;> first | assumption | exact rowP_ok _ _ _ _ _ | omega)) only [↓rsd, rsu, ↓reduceIte, Option.map_some, Option.map_none, Option.getD_some, Option.getD_none, List.map_cons, List.map_nil, List.cons_append, List.nil_append, List.append_nil, List.getD_cons_zero, List.getD_cons_succ, List.length_cons, List.length_nil, List.getElem?_cons_zero, List.getElem?_cons_succ, List.set_cons_zero, List.set_cons_succ, Nat.reduceEqDiff, Nat.reduceBEq, Nat.reduceAdd, Nat.reduceMul, Nat.reduceSub, Int.reduceToNat, List.length_set, List.length_replicate, List.length_map, eq_self, Nat.reduceLT, Nat.reduceLeDiff, List.flatMap_cons, List.flatMap_nil, List.all_cons, List.all_nil, List.isEmpty_nil, List.isEmpty_cons, Int.reduceAdd, Int.reduceMul, Int.reduceSub, Int.reduceNeg, Int.reduceDiv, Int.reduceMod, forall_const, e3, e4, e5, oj]
          refine ⟨_, by omega, i + 1, N, rfl, by omega, by omega, rfl, rfl, ?_⟩
          rw [if_pos rfl, len8, ← List.append_assoc]
        · have hi8 : i = 8 := by omega
          rw [hi8] at e3 oj hl8
          simp (maxSteps := 10000000) (disch := first | assumption | omega | (simp only [List.length_map, List.length_set, List.length_replicate, List.length_drop, List.length_take, List.length_append, List.length_cons, List.length_nil, bytes_len, strs_len] <;> omega) | with_reducible exact xor8_lt _ _ | with_reducible exact or8_lt _ _ | with_reducible exact toNat_lt8 _ | with_reducible exact rowP_ok _ _ _ _ _ | with_reducible exact rowOK_nil _ _ | (apply rowOK_put <;> first | assumption | exact rowP_ok _ _ _ _ _ | omega)) only [↓rsd, rsu, ↓reduceIte, Option.map_some, Option.map_none, Option.getD_some, Option.getD_none, List.map_cons, List.map_nil, List.cons_append, List.nil_append, List.append_nil, List.getD_cons_zero, List.getD_cons_succ, List.length_cons, List.length_nil, List.getElem?_cons_zero, List.getElem?_cons_succ, List.set_cons_zero, List.set_cons_succ, Nat.reduceEqDiff, Nat.reduceBEq, Nat.reduceAdd, Nat.reduceMul, Nat.reduceSub, Int.reduceToNat, List.length_set, List.length_replicate, List.length_map, eq_self, Nat.reduceLT, Nat.reduceLeDiff, List.flatMap_cons, List.flatMap_nil, List.all_cons, List.all_nil, List.isEmpty_nil, List.isEmpty_cons, Int.reduceAdd, Int.reduceMul, Int.reduceSub, Int.reduceNeg, Int.reduceDiv, Int.reduceMod, forall_const, e3, e4, e5, oj]
          rfl
end Go.Proofs.YtoccgkgdhobmfaaDoor.Am.Ru

set_option maxRecDepth 100000
set_option linter.unusedSimpArgs false
set_option linter.unusedVariables false
namespace Go.Proofs.YtoccgkgdhobmfaaDoor.Am.Ru
open Go
variable {G : Nat → Option (List V)} {E : Nat → Option (CallFn → List V → Hp → Nat → Option Out)}

def IV : List Nat := [1779033703, 3144134277, 1013904242, 2773480762, 1359893119, 2600822924, 528734635, 1541459225]
def blk (m : List UInt8) (i : Nat) : List UInt8 := (m.drop (64 * i)).take 64
def sumS (m : List UInt8) : Nat → List Nat
  | 0 => IV
  | i + 1 => cmpr (wsOf (blk m i)) (sumS m i)
def outB (S : List Nat) : Nat → List UInt8
  | 0 => List.replicate 32 0
  | i + 1 => (outB S i).set i (UInt8.ofNat (shr32 (S.getD (i / 4) 0) (24 - 8 * (i % 4)) % 256))
theorem outB_len (S : List Nat) (i : Nat) : (outB S i).length = 32 := by
  induction i with
  | zero => simp [outB]
  | succ i ih => simp [outB, ih]
def shaR (b : List UInt8) : List UInt8 := outB (sumS (padded b) ((padded b).length / 64)) 32
theorem padded_len (b : List UInt8) : (padded b).length = b.length + 1 + zpad b.length + 8 := by
  unfold padded; simp [len8_len]; omega
theorem padded_64 (b : List UInt8) : (padded b).length % 64 = 0 := by
  rw [padded_len]; have := zpad_end b.length; omega
theorem xor_not (e : Nat) : xor32 e 4294967295 = not32 e := by unfold xor32 not32; rw [Nat.xor_comm]

theorem wsOf_len (b : List UInt8) : (wsOf b).length = 64 := by unfold wsOf; rw [ws2_len, ws1_len]
set_option maxHeartbeats 4000000 in
theorem rsum_ok (hE : EOK G E) (hR : G 0 = some (KL.map n32)) (b : List UInt8) (hb : b.length ≤ 1000000) : valP (cfW G T E) 16 [.sl 1 (bytesV b)] = some (.ret (.agg ((shaR b).map b8))) := by
  have hp := padded_len b
  have hp64 := padded_64 b
  have hz := zpad_lt b.length
  have hkl := KL_len
  refine vrun 20 (m := m16) hE rfl rfl rfl rfl ?_
  simp (maxSteps := 10000000) (disch := first | assumption | omega | (simp only [List.length_map, List.length_set, List.length_replicate, List.length_drop, List.length_take, List.length_append, List.length_cons, List.length_nil, bytes_len, strs_len] <;> omega) | with_reducible exact xor8_lt _ _ | with_reducible exact or8_lt _ _ | with_reducible exact toNat_lt8 _ | with_reducible exact rowP_ok _ _ _ _ _ | with_reducible exact rowOK_nil _ _ | (apply rowOK_put <;> first | assumption | exact rowP_ok _ _ _ _ _ | omega)) only [↓rsd, rsu, ↓reduceIte, Option.map_some, Option.map_none, Option.getD_some, Option.getD_none, List.map_cons, List.map_nil, List.cons_append, List.nil_append, List.append_nil, List.getD_cons_zero, List.getD_cons_succ, List.length_cons, List.length_nil, List.getElem?_cons_zero, List.getElem?_cons_succ, List.set_cons_zero, List.set_cons_succ, Nat.reduceEqDiff, Nat.reduceBEq, Nat.reduceAdd, Nat.reduceMul, Nat.reduceSub, Int.reduceToNat, List.length_set, List.length_replicate, List.length_map, eq_self, Nat.reduceLT, Nat.reduceLeDiff, List.flatMap_cons, List.flatMap_nil, List.all_cons, List.all_nil, List.isEmpty_nil, List.isEmpty_cons, Int.reduceAdd, Int.reduceMul, Int.reduceSub, Int.reduceNeg, Int.reduceDiv, Int.reduceMod, forall_const, m16, padded_ok hE b hb]
  refine go_loop2 20 (fun n s => ∃ i s0 s1 s2 s3 s4 s5 s6 s7 : Nat, n = (padded b).length / 64 - i ∧ i ≤ (padded b).length / 64 ∧ 2 ≤ s.N ∧ sumS (padded b) i = [s0, s1, s2, s3, s4, s5, s6, s7] ∧ s.e 2 = .ptr 0 0 ∧ s.e 3 = .ptr 1 0 ∧ s.e 4 = .sl 1 (bytesV (padded b)) ∧ s.e 5 = .int .i64 (64 * i) ∧
     s.o 0 = .box ((List.replicate 32 (0 : UInt8)).map b8) ∧ s.o 1 = .box ([s0, s1, s2, s3, s4, s5, s6, s7].map n32)) ((padded b).length / 64) ?_ ?_
  · refine ⟨0, _, _, _, _, _, _, _, _, rfl, by omega, Nat.le_refl _, rfl, ?_⟩
    simp (maxSteps := 10000000) (disch := first | assumption | omega | (simp only [List.length_map, List.length_set, List.length_replicate, List.length_drop, List.length_take, List.length_append, List.length_cons, List.length_nil, bytes_len, strs_len] <;> omega) | with_reducible exact xor8_lt _ _ | with_reducible exact or8_lt _ _ | with_reducible exact toNat_lt8 _ | with_reducible exact rowP_ok _ _ _ _ _ | with_reducible exact rowOK_nil _ _ | (apply rowOK_put <;> first | assumption | exact rowP_ok _ _ _ _ _ | omega)) only [↓rsd, rsu, ↓reduceIte, Option.map_some, Option.map_none, Option.getD_some, Option.getD_none, List.map_cons, List.map_nil, List.cons_append, List.nil_append, List.append_nil, List.getD_cons_zero, List.getD_cons_succ, List.length_cons, List.length_nil, List.getElem?_cons_zero, List.getElem?_cons_succ, List.set_cons_zero, List.set_cons_succ, Nat.reduceEqDiff, Nat.reduceBEq, Nat.reduceAdd, Nat.reduceMul, Nat.reduceSub, Int.reduceToNat, List.length_set, List.length_replicate, List.length_map, eq_self, Nat.reduceLT, Nat.reduceLeDiff, List.flatMap_cons, List.flatMap_nil, List.all_cons, List.all_nil, List.isEmpty_nil, List.isEmpty_cons, Int.reduceAdd, Int.reduceMul, Int.reduceSub, Int.reduceNeg, Int.reduceDiv, Int.reduceMod, forall_const]
    exact ⟨rfl, rfl⟩
  · rintro n e o N ⟨i, s0, s1, s2, s3, s4, s5, s6, s7, hn, hi, hN, hS, e2, e3, e4, e5, o0, o1⟩
    simp only at hN e2 e3 e4 e5 o0 o1
    have n0 : ¬ (0 = N) := by omega
    have n1 : ¬ (1 = N) := by omega
    by_cases hlt : i < (padded b).length / 64
    · have hbl : (blk (padded b) i).length = 64 := by unfold blk; simp; omega
      have hbe : ((padded b).drop (64 * i)).take (64 * i + 64 - 64 * i) = blk (padded b) i := by unfold blk; congr 1; omega
      have hwl := wsOf_len (blk (padded b) i)
      simp (maxSteps := 10000000) (disch := first | assumption | omega | (simp only [List.length_map, List.length_set, List.length_replicate, List.length_drop, List.length_take, List.length_append, List.length_cons, List.length_nil, bytes_len, strs_len] <;> omega) | with_reducible exact xor8_lt _ _ | with_reducible exact or8_lt _ _ | with_reducible exact toNat_lt8 _ | with_reducible exact rowP_ok _ _ _ _ _ | with_reducible exact rowOK_nil _ _ | (apply rowOK_put <;> first | assumption | exact rowP_ok _ _ _ _ _ | omega)) only [↓rsd, rsu, ↓reduceIte, Option.map_some, Option.map_none, Option.getD_some, Option.getD_none, List.map_cons, List.map_nil, List.cons_append, List.nil_append, List.append_nil, List.getD_cons_zero, List.getD_cons_succ, List.length_cons, List.length_nil, List.getElem?_cons_zero, List.getElem?_cons_succ, List.set_cons_zero, List.set_cons_succ, Nat.reduceEqDiff, Nat.reduceBEq, Nat.reduceAdd, Nat.reduceMul, Nat.reduceSub, Int.reduceToNat, List.length_set, List.length_replicate, List.length_map, eq_self, Nat.reduceLT, Nat.reduceLeDiff, List.flatMap_cons, List.flatMap_nil, List.all_cons, List.all_nil, List.isEmpty_nil, List.isEmpty_cons, Int.reduceAdd, Int.reduceMul, Int.reduceSub, Int.reduceNeg, Int.reduceDiv, Int.reduceMod, forall_const, e2, e3, e4, e5, o0, o1, n0, n1, hbe, words_ok hE _ hbl]
      refine go_loop2 20 (fun n' s => ∃ t a b' c d e f g h : Nat, n' = 64 - t ∧ t ≤ 64 ∧ rounds (wsOf (blk (padded b) i)) [s0, s1, s2, s3, s4, s5, s6, s7] t = [a, b', c, d, e, f, g, h] ∧ s.N = N + 1 ∧
        s.e 2 = .ptr 0 0 ∧ s.e 3 = .ptr 1 0 ∧ s.e 4 = .sl 1 (bytesV (padded b)) ∧ s.e 5 = .int .i64 (64 * i) ∧ s.e 6 = .ptr N 0 ∧
        s.e 7 = .int .u32 a ∧ s.e 8 = .int .u32 b' ∧ s.e 9 = .int .u32 c ∧ s.e 10 = .int .u32 d ∧ s.e 11 = .int .u32 e ∧ s.e 12 = .int .u32 f ∧ s.e 13 = .int .u32 g ∧ s.e 14 = .int .u32 h ∧ s.e 15 = .int .i64 t ∧
        s.o 0 = .box ((List.replicate 32 (0 : UInt8)).map b8) ∧ s.o 1 = .box ([s0, s1, s2, s3, s4, s5, s6, s7].map n32) ∧ s.o N = .box ((wsOf (blk (padded b) i)).map n32)) 64 ?_ ?_
      · refine ⟨0, s0, s1, s2, s3, s4, s5, s6, s7, rfl, by omega, rfl, rfl, ?_⟩
        simp (maxSteps := 10000000) (disch := first | assumption | omega | (simp only [List.length_map, List.length_set, List.length_replicate, List.length_drop, List.length_take, List.length_append, List.length_cons, List.length_nil, bytes_len, strs_len] <;> omega) | with_reducible exact xor8_lt _ _ | with_reducible exact or8_lt _ _ | with_reducible exact toNat_lt8 _ | with_reducible exact rowP_ok _ _ _ _ _ | with_reducible exact rowOK_nil _ _ | (apply rowOK_put <;> first | assumption | exact rowP_ok _ _ _ _ _ | omega)) only [↓rsd, rsu, ↓reduceIte, Option.map_some, Option.map_none, Option.getD_some, Option.getD_none, List.map_cons, List.map_nil, List.cons_append, List.nil_append, List.append_nil, List.getD_cons_zero, List.getD_cons_succ, List.length_cons, List.length_nil, List.getElem?_cons_zero, List.getElem?_cons_succ, List.set_cons_zero, List.set_cons_succ, Nat.reduceEqDiff, Nat.reduceBEq, Nat.reduceAdd, Nat.reduceMul, Nat.reduceSub, Int.reduceToNat, List.length_set, List.length_replicate, List.length_map, eq_self, Nat.reduceLT, Nat.reduceLeDiff, List.flatMap_cons, List.flatMap_nil, List.all_cons, List.all_nil, List.isEmpty_nil, List.isEmpty_cons, Int.reduceAdd, Int.reduceMul, Int.reduceSub, Int.reduceNeg, Int.reduceDiv, Int.reduceMod, forall_const, e2, e3, e4, e5, o0, o1, n0, n1]
        rfl
      · clear e2 e3 e4 e5 o0 o1
        rintro n' e' o N' ⟨t, a, b', c, d, e, f, g, h, hn', ht, hr, rfl, e2, e3, e4, e5, e6, e7, e8, e9, e10, e11, e12, e13, e14, e15, o0, o1, oN⟩
        simp only at e2 e3 e4 e5 e6 e7 e8 e9 e10 e11 e12 e13 e14 e15 o0 o1 oN
        by_cases htl : t < 64
        · simp (maxSteps := 10000000) (disch := first | assumption | omega | (simp only [List.length_map, List.length_set, List.length_replicate, List.length_drop, List.length_take, List.length_append, List.length_cons, List.length_nil, bytes_len, strs_len] <;> omega) | with_reducible exact xor8_lt _ _ | with_reducible exact or8_lt _ _ | with_reducible exact toNat_lt8 _ | with_reducible exact rowP_ok _ _ _ _ _ | with_reducible exact rowOK_nil _ _ | (apply rowOK_put <;> first | assumption | exact rowP_ok _ _ _ _ _ | omega)) only [↓rsd, rsu, ↓reduceIte, Option.map_some, Option.map_none, Option.getD_some, Option.getD_none, List.map_cons, List.map_nil, List.cons_append, List.nil_append, List.append_nil, List.getD_cons_zero, List.getD_cons_succ, List.length_cons, List.length_nil, List.getElem?_cons_zero, List.getElem?_cons_succ, List.set_cons_zero, List.set_cons_succ, Nat.reduceEqDiff, Nat.reduceBEq, Nat.reduceAdd, Nat.reduceMul, Nat.reduceSub, Int.reduceToNat, List.length_set, List.length_replicate, List.length_map, eq_self, Nat.reduceLT, Nat.reduceLeDiff, List.flatMap_cons, List.flatMap_nil, List.all_cons, List.all_nil, List.isEmpty_nil, List.isEmpty_cons, Int.reduceAdd, Int.reduceMul, Int.reduceSub, Int.reduceNeg, Int.reduceDiv, Int.reduceMod, forall_const, e2, e3, e4, e5, e6, e7, e8, e9, e10, e11, e12, e13, e14, e15, o0, o1, oN, rotr_ok hE, hR]
          refine ⟨_, by omega, t + 1, _, _, _, _, _, _, _, _, rfl, by omega, ?_, rfl, rfl, rfl, rfl, rfl, rfl, rfl, rfl, rfl⟩
          rw [rounds, hr, xor_not]
          rfl
        · simp (maxSteps := 10000000) (disch := first | assumption | omega | (simp only [List.length_map, List.length_set, List.length_replicate, List.length_drop, List.length_take, List.length_append, List.length_cons, List.length_nil, bytes_len, strs_len] <;> omega) | with_reducible exact xor8_lt _ _ | with_reducible exact or8_lt _ _ | with_reducible exact toNat_lt8 _ | with_reducible exact rowP_ok _ _ _ _ _ | with_reducible exact rowOK_nil _ _ | (apply rowOK_put <;> first | assumption | exact rowP_ok _ _ _ _ _ | omega)) only [↓rsd, rsu, ↓reduceIte, Option.map_some, Option.map_none, Option.getD_some, Option.getD_none, List.map_cons, List.map_nil, List.cons_append, List.nil_append, List.append_nil, List.getD_cons_zero, List.getD_cons_succ, List.length_cons, List.length_nil, List.getElem?_cons_zero, List.getElem?_cons_succ, List.set_cons_zero, List.set_cons_succ, Nat.reduceEqDiff, Nat.reduceBEq, Nat.reduceAdd, Nat.reduceMul, Nat.reduceSub, Int.reduceToNat, List.length_set, List.length_replicate, List.length_map, eq_self, Nat.reduceLT, Nat.reduceLeDiff, List.flatMap_cons, List.flatMap_nil, List.all_cons, List.all_nil, List.isEmpty_nil, List.isEmpty_cons, Int.reduceAdd, Int.reduceMul, Int.reduceSub, Int.reduceNeg, Int.reduceDiv, Int.reduceMod, forall_const, e2, e3, e4, e5, e6, e7, e8, e9, e10, e11, e12, e13, e14, e15, o0, o1, oN, n0, n1]
          have h64 : t = 64 := by omega
          subst h64
          refine ⟨_, by omega, i + 1, add32 s0 a, add32 s1 b', add32 s2 c, add32 s3 d, add32 s4 e, add32 s5 f, add32 s6 g, add32 s7 h, rfl, by omega, by omega, ?_, ?_, rfl⟩
          · rw [sumS, hS, cmpr, hr]; rfl
          · congr 1
    · have hSl : (sumS (padded b) i).length = 8 := by rw [hS]; rfl
      rw [← hS] at o1
      simp (maxSteps := 10000000) (disch := first | assumption | omega | (simp only [List.length_map, List.length_set, List.length_replicate, List.length_drop, List.length_take, List.length_append, List.length_cons, List.length_nil, bytes_len, strs_len] <;> omega) | with_reducible exact xor8_lt _ _ | with_reducible exact or8_lt _ _ | with_reducible exact toNat_lt8 _ | with_reducible exact rowP_ok _ _ _ _ _ | with_reducible exact rowOK_nil _ _ | (apply rowOK_put <;> first | assumption | exact rowP_ok _ _ _ _ _ | omega)) only [↓rsd, rsu, ↓reduceIte, Option.map_some, Option.map_none, Option.getD_some, Option.getD_none, List.map_cons, List.map_nil, List.cons_append, List.nil_append, List.append_nil, List.getD_cons_zero, List.getD_cons_succ, List.length_cons, List.length_nil, List.getElem?_cons_zero, List.getElem?_cons_succ, List.set_cons_zero, List.set_cons_succ, Nat.reduceEqDiff, Nat.reduceBEq, Nat.reduceAdd, Nat.reduceMul, Nat.reduceSub, Int.reduceToNat, List.length_set, List.length_replicate, List.length_map, eq_self, Nat.reduceLT, Nat.reduceLeDiff, List.flatMap_cons, List.flatMap_nil, List.all_cons, List.all_nil, List.isEmpty_nil, List.isEmpty_cons, Int.reduceAdd, Int.reduceMul, Int.reduceSub, Int.reduceNeg, Int.reduceDiv, Int.reduceMod, forall_const, e2, e3, e4, e5, o0, o1, n0, n1]
      have hin : i = (padded b).length / 64 := by omega
      refine go_loop2 20 (fun n s => ∃ j : Nat, n = 32 - j ∧ j ≤ 32 ∧ s.N = N + 1 ∧ s.e 2 = .ptr 0 0 ∧ s.e 3 = .ptr 1 0 ∧ s.e 18 = .ptr N 0 ∧ s.e 19 = .int .i64 j ∧
        s.o 0 = .box ((List.replicate 32 (0 : UInt8)).map b8) ∧ s.o 1 = .box ((sumS (padded b) i).map n32) ∧ s.o N = .box ((outB (sumS (padded b) i) j).map b8)) 32 ?_ ?_
      · refine ⟨0, rfl, by omega, rfl, ?_⟩
        simp (maxSteps := 10000000) (disch := first | assumption | omega | (simp only [List.length_map, List.length_set, List.length_replicate, List.length_drop, List.length_take, List.length_append, List.length_cons, List.length_nil, bytes_len, strs_len] <;> omega) | with_reducible exact xor8_lt _ _ | with_reducible exact or8_lt _ _ | with_reducible exact toNat_lt8 _ | with_reducible exact rowP_ok _ _ _ _ _ | with_reducible exact rowOK_nil _ _ | (apply rowOK_put <;> first | assumption | exact rowP_ok _ _ _ _ _ | omega)) only [↓rsd, rsu, ↓reduceIte, Option.map_some, Option.map_none, Option.getD_some, Option.getD_none, List.map_cons, List.map_nil, List.cons_append, List.nil_append, List.append_nil, List.getD_cons_zero, List.getD_cons_succ, List.length_cons, List.length_nil, List.getElem?_cons_zero, List.getElem?_cons_succ, List.set_cons_zero, List.set_cons_succ, Nat.reduceEqDiff, Nat.reduceBEq, Nat.reduceAdd, Nat.reduceMul, Nat.reduceSub, Int.reduceToNat, List.length_set, List.length_replicate, List.length_map, eq_self, Nat.reduceLT, Nat.reduceLeDiff, List.flatMap_cons, List.flatMap_nil, List.all_cons, List.all_nil, List.isEmpty_nil, List.isEmpty_cons, Int.reduceAdd, Int.reduceMul, Int.reduceSub, Int.reduceNeg, Int.reduceDiv, Int.reduceMod, forall_const, e2, e3, e4, e5, o0, o1, n0, n1]
        exact ⟨rfl, rfl⟩
      · clear e2 e3 e4 e5 o0 o1
        rintro n' e o N' ⟨j, hn', hj, rfl, e2, e3, e18, e19, o0, o1, oN⟩
        simp only at e2 e3 e18 e19 o0 o1 oN
        have hol := outB_len (sumS (padded b) i) j
        by_cases hjl : j < 32
        · simp (maxSteps := 10000000) (disch := first | assumption | omega | (simp only [List.length_map, List.length_set, List.length_replicate, List.length_drop, List.length_take, List.length_append, List.length_cons, List.length_nil, bytes_len, strs_len] <;> omega) | with_reducible exact xor8_lt _ _ | with_reducible exact or8_lt _ _ | with_reducible exact toNat_lt8 _ | with_reducible exact rowP_ok _ _ _ _ _ | with_reducible exact rowOK_nil _ _ | (apply rowOK_put <;> first | assumption | exact rowP_ok _ _ _ _ _ | omega)) only [↓rsd, rsu, ↓reduceIte, Option.map_some, Option.map_none, Option.getD_some, Option.getD_none, List.map_cons, List.map_nil, List.cons_append, List.nil_append, List.append_nil, List.getD_cons_zero, List.getD_cons_succ, List.length_cons, List.length_nil, List.getElem?_cons_zero, List.getElem?_cons_succ, List.set_cons_zero, List.set_cons_succ, Nat.reduceEqDiff, Nat.reduceBEq, Nat.reduceAdd, Nat.reduceMul, Nat.reduceSub, Int.reduceToNat, List.length_set, List.length_replicate, List.length_map, eq_self, Nat.reduceLT, Nat.reduceLeDiff, List.flatMap_cons, List.flatMap_nil, List.all_cons, List.all_nil, List.isEmpty_nil, List.isEmpty_cons, Int.reduceAdd, Int.reduceMul, Int.reduceSub, Int.reduceNeg, Int.reduceDiv, Int.reduceMod, forall_const, e2, e3, e18, e19, o0, o1, oN, n0, n1]
          exact ⟨_, by omega, j + 1, rfl, by omega, rfl, rfl⟩
        · simp (maxSteps := 10000000) (disch := first | assumption | omega | (simp only [List.length_map, List.length_set, List.length_replicate, List.length_drop, List.length_take, List.length_append, List.length_cons, List.length_nil, bytes_len, strs_len] <;> omega) | with_reducible exact xor8_lt _ _ | with_reducible exact or8_lt _ _ | with_reducible exact toNat_lt8 _ | with_reducible exact rowP_ok _ _ _ _ _ | with_reducible exact rowOK_nil _ _ | (apply rowOK_put <;> first | assumption | exact rowP_ok _ _ _ _ _ | omega)) only [↓rsd, rsu, ↓reduceIte, Option.map_some, Option.map_none, Option.getD_some, Option.getD_none, List.map_cons, List.map_nil, List.cons_append, List.nil_append, List.append_nil, List.getD_cons_zero, List.getD_cons_succ, List.length_cons, List.length_nil, List.getElem?_cons_zero, List.getElem?_cons_succ, List.set_cons_zero, List.set_cons_succ, Nat.reduceEqDiff, Nat.reduceBEq, Nat.reduceAdd, Nat.reduceMul, Nat.reduceSub, Int.reduceToNat, List.length_set, List.length_replicate, List.length_map, eq_self, Nat.reduceLT, Nat.reduceLeDiff, List.flatMap_cons, List.flatMap_nil, List.all_cons, List.all_nil, List.isEmpty_nil, List.isEmpty_cons, Int.reduceAdd, Int.reduceMul, Int.reduceSub, Int.reduceNeg, Int.reduceDiv, Int.reduceMod, forall_const, e2, e3, e18, e19, o0, o1, oN, n0, n1]
          have hj32 : j = 32 := by omega
          rw [hj32, hin]; rfl
end Go.Proofs.YtoccgkgdhobmfaaDoor.Am.Ru

set_option maxRecDepth 100000
set_option linter.unusedSimpArgs false
set_option linter.unusedVariables false
namespace Go.Proofs.YtoccgkgdhobmfaaDoor.Am.Ru
open Go
variable {G : Nat → Option (List V)} {E : Nat → Option (CallFn → List V → Hp → Nat → Option Out)}

/-- A stream: the hash value, the last block, the length. -/
def strm (S : List Nat) (B : List UInt8) (n : Nat) : List V := S.map n32 ++ (B.map b8 ++ [.int .u64 (n : Int)])
theorem strm_len {S : List Nat} {B : List UInt8} {n : Nat} (hS : S.length = 8) (hB : B.length = 64) : (strm S B n).length = 73 := by simp [strm, hS, hB]
theorem strm_fold (S : List Nat) (B : List UInt8) (n : Nat) : S.map n32 ++ (B.map b8 ++ [.int .u64 (n : Int)]) = strm S B n := _root_.id rfl
theorem strm_stand {S : List Nat} {B : List UInt8} {n : Nat} : ∀ v ∈ strm S B n, stand v = true := by
  intro v hv
  simp only [strm, List.mem_append, List.mem_map, List.mem_singleton] at hv
  rcases hv with ⟨a, _, rfl⟩ | ⟨a, _, rfl⟩ | rfl <;> rfl
theorem strm_cut73 {S : List Nat} {B : List UInt8} {n : Nat} (hS : S.length = 8) (hB : B.length = 64) : cut 0 73 (strm S B n) = some (strm S B n) := cut_all 73 _ (strm_len hS hB)
theorem strm_cut8 {S : List Nat} {B : List UInt8} {n : Nat} (hS : S.length = 8) : cut 0 8 (strm S B n) = some (S.map n32) := by
  unfold cut strm
  rw [if_pos (by simp; omega), List.drop_zero, List.take_append_of_le_length (by simp [hS]), List.take_of_length_le (by simp [hS])]
theorem strm_cut1 {S : List Nat} {B : List UInt8} {n : Nat} (j : Nat) (hS : S.length = 8) (hj : j < 8) : cut j 1 (strm S B n) = some [.int .u32 ((S.getD j 0 : Nat) : Int)] := by
  have h := cut_n32 S j (by omega)
  unfold cut at h ⊢
  unfold strm
  rw [if_pos (by simp; omega)] at h ⊢
  rw [List.drop_append_of_le_length (by simp; omega), List.take_append_of_le_length (by simp; omega)]
  exact h
theorem strm_cut72 {S : List Nat} {B : List UInt8} {n : Nat} (hS : S.length = 8) (hB : B.length = 64) : cut 72 1 (strm S B n) = some [.int .u64 (n : Int)] := by
  unfold cut strm
  rw [if_pos (by simp; omega)]
  have h1 : (S.map n32 ++ (B.map b8 ++ [V.int .u64 (n : Int)])) = (S.map n32 ++ B.map b8) ++ [V.int .u64 (n : Int)] := by simp
  have h2 : (S.map n32 ++ B.map b8).length = 72 := by simp; omega
  rw [h1, List.drop_append_of_le_length (by omega), List.drop_of_length_le (by omega)]; rfl
theorem strm_set8 {S S' : List Nat} {B : List UInt8} {n : Nat} (hS : S.length = 8) (hS' : S'.length = 8) : splice 0 (S'.map n32) (strm S B n) = some (strm S' B n) := by
  unfold splice strm
  rw [if_pos (by simp; omega)]
  simp [hS, hS']
theorem strm_set72 {S : List Nat} {B : List UInt8} {n m : Nat} (hS : S.length = 8) (hB : B.length = 64) : splice 72 [.int .u64 (m : Int)] (strm S B n) = some (strm S B m) := by
  unfold splice strm
  have h1 : (S.map n32 ++ (B.map b8 ++ [V.int .u64 (n : Int)])) = (S.map n32 ++ B.map b8) ++ [V.int .u64 (n : Int)] := by simp
  have h2 : (S.map n32 ++ B.map b8).length = 72 := by simp; omega
  rw [h1, if_pos (by simp; omega), List.take_append_of_le_length (by omega), List.take_of_length_le (by omega), List.drop_of_length_le (by simp; omega)]
  simp
theorem strm_put {S : List Nat} {B new : List UInt8} {n at' : Nat} (hS : S.length = 8) (hB : B.length = 64) (h : at' + new.length ≤ 64) : splice (8 + at') (new.map b8) (strm S B n) = some (strm S (putL at' new B) n) := by
  unfold splice strm putL
  rw [if_pos (by simp; omega)]
  have e1 : (S.map n32 ++ (B.map b8 ++ [V.int .u64 (n : Int)])).take (8 + at') = S.map n32 ++ (B.take at').map b8 := by
    rw [List.take_append, List.take_of_length_le (by simp; omega)]
    congr 1
    rw [List.take_append_of_le_length (by simp; omega), List.length_map, hS, List.map_take]
    congr 1; omega
  have e2 : (S.map n32 ++ (B.map b8 ++ [V.int .u64 (n : Int)])).drop (8 + at' + (new.map b8).length) = (B.drop (at' + new.length)).map b8 ++ [V.int .u64 (n : Int)] := by
    rw [List.drop_append, List.drop_of_length_le (by simp; omega), List.nil_append, List.drop_append_of_le_length (by simp; omega)]
    congr 1
    rw [List.map_drop, List.length_map, List.length_map, hS]
    congr 1; omega
  rw [e1, e2]
  simp
section
variable {o : Hp}
theorem elb_strm {S : List Nat} {B : List UInt8} {n : Nat} (off len i : Nat) (hS : S.length = 8) (hB : B.length = 64) (h : off + len ≤ 64) : elb 1 (8 + off) len i (.box (strm S B n)) = some (bytesV ((B.drop off).take len), [i]) := by
  have hc : cut (8 + off) len (strm S B n) = some (((B.drop off).take len).map b8) := by
    unfold cut strm
    rw [if_pos (by simp; omega), List.drop_append, List.drop_of_length_le (by simp; omega), List.nil_append, List.drop_append_of_le_length (by simp; omega), List.take_append_of_le_length (by simp; omega)]
    rw [List.map_take, List.map_drop, List.length_map, hS]
    congr 3; omega
  simp only [elb, Nat.mul_one, hc, Option.map_some]
  rw [chunks_b8 _ _ (by simp; omega)]
theorem frb_strm {S : List Nat} {B : List UInt8} {n m : Nat} (off len i : Nat) (hS : S.length = 8) (hB : B.length = 64) (h : off + len ≤ 64) : frb (8 + off) len i 1 (.box (strm S B n)) (seqM (frz o (m + 1)) (strm S B n)) = some (.sl 1 (bytesV ((B.drop off).take len)), [(i, .fbox (strm S B n))]) := by
  have hc : cut (8 + off) len (strm S B n) = some (((B.drop off).take len).map b8) := by
    unfold cut strm
    rw [if_pos (by simp; omega), List.drop_append, List.drop_of_length_le (by simp; omega), List.nil_append, List.drop_append_of_le_length (by simp; omega), List.take_append_of_le_length (by simp; omega)]
    rw [List.map_take, List.map_drop, List.length_map, hS]
    congr 3; omega
  simp only [frb, seqM_same fun v hv => frz_stand (strm_stand v hv), Option.bind_some, Nat.mul_one, hc, Option.map_some]
  rw [chunks_b8 _ _ (by simp; omega)]
theorem fr_strm {S : List Nat} {B : List UInt8} {n m : Nat} : frz o (m + 2) (.agg (strm S B n)) = some (.agg (strm S B n), []) := by
  show ((seqM (frz o (m + 1)) (strm S B n)).map fun r => (V.agg r.1, r.2)) = _
  rw [seqM_same fun v hv => frz_stand (strm_stand v hv)]; rfl
theorem lk_strm {S : List Nat} {B : List UInt8} {n m : Nat} : looks o (m + 1) (.agg (strm S B n)) = [] := flat_looks m _ strm_stand
theorem fm_strm {S : List Nat} {B : List UInt8} {n m : Nat} : (strm S B n).flatMap (looks o m) = [] := flat_looks m _ strm_stand
theorem sc_strm {S : List Nat} {B : List UInt8} {n : Nat} : scalar (.agg (strm S B n)) = true := by
  simp only [scalar, strm, List.all_append, List.all_map, Bool.and_eq_true, List.all_eq_true]
  exact ⟨fun _ _ => rfl, fun _ _ => rfl, fun x hx => by rw [List.mem_singleton] at hx; subst hx; rfl⟩
end

theorem vStore_strm {o : Hp} {S : List Nat} {B : List UInt8} {n : Nat} (a : V) (hS : S.length = 8) (hB : B.length = 64) : vStore o 73 a (.agg (strm S B n)) = sto o (strm S B n) a := vStore_agg 73 a _ (strm_len hS hB)
theorem strm_all {S S' : List Nat} {B B' : List UInt8} {n n' : Nat} (hS : S.length = 8) (hB : B.length = 64) (hS' : S'.length = 8) (hB' : B'.length = 64) : splice 0 (strm S B n) (strm S' B' n') = some (strm S B n) :=
  splice_all _ _ (by rw [strm_len hS hB, strm_len hS' hB'])
theorem begin_ok (hE : EOK G E) : valP (cfW G T E) 18 [] = some (.ret (.agg (strm IV (List.replicate 64 0) 0))) := by
  refine vrun 0 (m := m18) hE rfl rfl rfl rfl ?_
  simp (maxSteps := 10000000) (disch := first | assumption | omega | (simp only [List.length_map, List.length_set, List.length_replicate, List.length_drop, List.length_take, List.length_append, List.length_cons, List.length_nil, bytes_len, strs_len] <;> omega) | with_reducible exact xor8_lt _ _ | with_reducible exact or8_lt _ _ | with_reducible exact toNat_lt8 _ | with_reducible exact rowP_ok _ _ _ _ _ | with_reducible exact rowOK_nil _ _ | (apply rowOK_put <;> first | assumption | exact rowP_ok _ _ _ _ _ | omega)) only [↓rsd, rsu, ↓reduceIte, Option.map_some, Option.map_none, Option.getD_some, Option.getD_none, List.map_cons, List.map_nil, List.cons_append, List.nil_append, List.append_nil, List.getD_cons_zero, List.getD_cons_succ, List.length_cons, List.length_nil, List.getElem?_cons_zero, List.getElem?_cons_succ, List.set_cons_zero, List.set_cons_succ, Nat.reduceEqDiff, Nat.reduceBEq, Nat.reduceAdd, Nat.reduceMul, Nat.reduceSub, Int.reduceToNat, List.length_set, List.length_replicate, List.length_map, eq_self, Nat.reduceLT, Nat.reduceLeDiff, List.flatMap_cons, List.flatMap_nil, List.all_cons, List.all_nil, List.isEmpty_nil, List.isEmpty_cons, Int.reduceAdd, Int.reduceMul, Int.reduceSub, Int.reduceNeg, Int.reduceDiv, Int.reduceMod, forall_const, m18, strm_fold, strm_set8, strm_cut73, fr_strm, vStore_strm, strm_all]
  rfl

theorem list8 {S : List Nat} (h : S.length = 8) : ∃ a b c d e f g k, S = [a, b, c, d, e, f, g, k] := by
  match S, h with
  | [a, b, c, d, e, f, g, k], _ => exact ⟨a, b, c, d, e, f, g, k, rfl⟩
theorem rnd_len (k w : Nat) {S : List Nat} (h : S.length = 8) : (rnd k w S).length = 8 := by
  obtain ⟨a, b, c, d, e, f, g, k, rfl⟩ := list8 h; rfl
theorem rounds_len (W : List Nat) {S : List Nat} (h : S.length = 8) (t : Nat) : (rounds W S t).length = 8 := by
  induction t with
  | zero => exact h
  | succ t ih => exact rnd_len _ _ ih
theorem cmpr_len (W : List Nat) {S : List Nat} (h : S.length = 8) : (cmpr W S).length = 8 := by
  unfold cmpr
  have hr := rounds_len W h 64
  obtain ⟨a, b, c, d, e, f, g, k, hr'⟩ := list8 hr
  obtain ⟨a', b', c', d', e', f', g', k', rfl⟩ := list8 h
  rw [hr']; rfl
theorem compress_okS (hE : EOK G E) {S : List Nat} (hS : S.length = 8) (b : List UInt8) (hb : b.length = 64) : valP (cfW G T E) 50 [.agg (S.map n32), .sl 1 (bytesV b)] = some (.ret (.agg ((cmpr (sch b 64) S).map n32))) := by
  obtain ⟨a, b, c, d, e, f, g, k, rfl⟩ := list8 hS
  exact compress_ok hE _ _ _ _ _ _ _ _ _ hb
theorem frb_strm0 {o : Hp} {S : List Nat} {B : List UInt8} {n m : Nat} (i : Nat) (hS : S.length = 8) (hB : B.length = 64) : frb 8 64 i 1 (.box (strm S B n)) (seqM (frz o (m + 1)) (strm S B n)) = some (.sl 1 (bytesV B), [(i, .fbox (strm S B n))]) := by
  have h := frb_strm (o := o) (n := n) (m := m) 0 64 i hS hB (by omega)
  rw [List.drop_zero, List.take_of_length_le (by omega)] at h
  exact h
/-- The stream after more bytes. -/
def addN : Nat → List Nat → List UInt8 → Nat → List UInt8 → List Nat × List UInt8 × Nat
  | 0, S, B, n, _ => (S, B, n)
  | f + 1, S, B, n, t =>
    if t = [] then (S, B, n) else
      if n % 64 + min t.length (64 - n % 64) = 64 then
        addN f (cmpr (sch (putL (n % 64) (t.take (64 - n % 64)) B) 64) S) (putL (n % 64) (t.take (64 - n % 64)) B) (add64u n (min t.length (64 - n % 64) % 18446744073709551616)) (t.drop (min t.length (64 - n % 64)))
      else addN f S (putL (n % 64) (t.take (64 - n % 64)) B) (add64u n (min t.length (64 - n % 64) % 18446744073709551616)) (t.drop (min t.length (64 - n % 64)))
theorem addN_fuel : ∀ (f g : Nat) (S : List Nat) (B : List UInt8) (n : Nat) (t : List UInt8), t.length ≤ f → t.length ≤ g → addN f S B n t = addN g S B n t := by
  intro f
  induction f with
  | zero =>
    intro g S B n t hf hg
    have : t = [] := List.length_eq_zero_iff.1 (by omega)
    subst this
    cases g <;> simp [addN]
  | succ f ih =>
    intro g S B n t hf hg
    cases g with
    | zero =>
      have : t = [] := List.length_eq_zero_iff.1 (by omega)
      subst this; simp [addN]
    | succ g =>
      simp only [addN]
      by_cases ht : t = []
      · rw [if_pos ht, if_pos ht]
      · have hl : 0 < t.length := List.length_pos_iff.2 ht
        have hd : (t.drop (min t.length (64 - n % 64))).length < t.length := by simp; omega
        rw [if_neg ht, if_neg ht]
        split
        · exact ih g _ _ _ _ (by omega) (by omega)
        · exact ih g _ _ _ _ (by omega) (by omega)
def addF (S : List Nat) (B : List UInt8) (n : Nat) (t : List UInt8) : List Nat × List UInt8 × Nat := addN t.length S B n t
theorem addF_nil (S : List Nat) (B : List UInt8) (n : Nat) : addF S B n [] = (S, B, n) := rfl
theorem addF_full (S : List Nat) (B : List UInt8) (n : Nat) (t : List UInt8) (ht : t ≠ []) (h : n % 64 + min t.length (64 - n % 64) = 64) :
    addF S B n t = addF (cmpr (sch (putL (n % 64) (t.take (64 - n % 64)) B) 64) S) (putL (n % 64) (t.take (64 - n % 64)) B) (add64u n (min t.length (64 - n % 64) % 18446744073709551616)) (t.drop (min t.length (64 - n % 64))) := by
  have hl : 0 < t.length := List.length_pos_iff.2 ht
  unfold addF
  obtain ⟨k, hk⟩ : ∃ k, t.length = k + 1 := ⟨t.length - 1, by omega⟩
  conv => lhs; rw [hk]; unfold addN
  rw [if_neg ht, if_pos h]
  exact addN_fuel _ _ _ _ _ _ (by simp; omega) (by omega)
theorem addF_part (S : List Nat) (B : List UInt8) (n : Nat) (t : List UInt8) (ht : t ≠ []) (h : ¬ n % 64 + min t.length (64 - n % 64) = 64) :
    addF S B n t = addF S (putL (n % 64) (t.take (64 - n % 64)) B) (add64u n (min t.length (64 - n % 64) % 18446744073709551616)) (t.drop (min t.length (64 - n % 64))) := by
  have hl : 0 < t.length := List.length_pos_iff.2 ht
  unfold addF
  obtain ⟨k, hk⟩ : ∃ k, t.length = k + 1 := ⟨t.length - 1, by omega⟩
  conv => lhs; rw [hk]; unfold addN
  rw [if_neg ht, if_neg h]
  exact addN_fuel _ _ _ _ _ _ (by simp; omega) (by omega)

theorem add_ok (hE : EOK G E) (S : List Nat) (B : List UInt8) (n : Nat) (t : List UInt8) (hS : S.length = 8) (hB : B.length = 64) :
    valP (cfW G T E) 19 [.agg (strm S B n), .str t] = some (.ret (.agg (strm (addF S B n t).1 (addF S B n t).2.1 (addF S B n t).2.2))) := by
  refine vrun 7 (m := m19) hE rfl rfl rfl rfl ?_
  simp (maxSteps := 10000000) (disch := first | assumption | omega | (simp only [List.length_map, List.length_set, List.length_replicate, List.length_drop, List.length_take, List.length_append, List.length_cons, List.length_nil, bytes_len, strs_len] <;> omega) | with_reducible exact xor8_lt _ _ | with_reducible exact or8_lt _ _ | with_reducible exact toNat_lt8 _ | with_reducible exact rowP_ok _ _ _ _ _ | with_reducible exact rowOK_nil _ _ | (apply rowOK_put <;> first | assumption | exact rowP_ok _ _ _ _ _ | omega)) only [↓rsd, rsu, ↓reduceIte, Option.map_some, Option.map_none, Option.getD_some, Option.getD_none, List.map_cons, List.map_nil, List.cons_append, List.nil_append, List.append_nil, List.getD_cons_zero, List.getD_cons_succ, List.length_cons, List.length_nil, List.getElem?_cons_zero, List.getElem?_cons_succ, List.set_cons_zero, List.set_cons_succ, Nat.reduceEqDiff, Nat.reduceBEq, Nat.reduceAdd, Nat.reduceMul, Nat.reduceSub, Int.reduceToNat, List.length_set, List.length_replicate, List.length_map, eq_self, Nat.reduceLT, Nat.reduceLeDiff, List.flatMap_cons, List.flatMap_nil, List.all_cons, List.all_nil, List.isEmpty_nil, List.isEmpty_cons, Int.reduceAdd, Int.reduceMul, Int.reduceSub, Int.reduceNeg, Int.reduceDiv, Int.reduceMod, forall_const, m19, strm_fold, strm_set8, strm_cut73, fr_strm, vStore_strm, strm_all]
  refine go_loop2 7 (fun m s => ∃ S' B' n' t', m = t'.length ∧ S'.length = 8 ∧ B'.length = 64 ∧ addF S' B' n' t' = addF S B n t ∧ s.N = 2 ∧ s.e 1 = .str t' ∧ s.e 2 = .ptr 0 0 ∧ s.e 4 = .ptr 1 0 ∧ s.o 0 = .box (strm S' B' n') ∧ s.o 1 = .box (strm (List.replicate 8 0) (List.replicate 64 0) 0)) t.length ?_ ?_
  · refine ⟨S, B, n, t, rfl, hS, hB, rfl, rfl, ?_⟩
    simp (maxSteps := 10000000) (disch := first | assumption | omega | (simp only [List.length_map, List.length_set, List.length_replicate, List.length_drop, List.length_take, List.length_append, List.length_cons, List.length_nil, bytes_len, strs_len] <;> omega) | with_reducible exact xor8_lt _ _ | with_reducible exact or8_lt _ _ | with_reducible exact toNat_lt8 _ | with_reducible exact rowP_ok _ _ _ _ _ | with_reducible exact rowOK_nil _ _ | (apply rowOK_put <;> first | assumption | exact rowP_ok _ _ _ _ _ | omega)) only [↓rsd, rsu, ↓reduceIte, Option.map_some, Option.map_none, Option.getD_some, Option.getD_none, List.map_cons, List.map_nil, List.cons_append, List.nil_append, List.append_nil, List.getD_cons_zero, List.getD_cons_succ, List.length_cons, List.length_nil, List.getElem?_cons_zero, List.getElem?_cons_succ, List.set_cons_zero, List.set_cons_succ, Nat.reduceEqDiff, Nat.reduceBEq, Nat.reduceAdd, Nat.reduceMul, Nat.reduceSub, Int.reduceToNat, List.length_set, List.length_replicate, List.length_map, eq_self, Nat.reduceLT, Nat.reduceLeDiff, List.flatMap_cons, List.flatMap_nil, List.all_cons, List.all_nil, List.isEmpty_nil, List.isEmpty_cons, Int.reduceAdd, Int.reduceMul, Int.reduceSub, Int.reduceNeg, Int.reduceDiv, Int.reduceMod, forall_const]
  · clear hS hB
    rintro m e o N ⟨S', B', n', t', hm, hS, hB, hF, rfl, e1, e2, e4, o0, o1⟩
    simp only at e1 e2 e4 o0 o1
    by_cases ht : t' = []
    · have hb : (t' == []) = true := by simp [ht]
      simp (maxSteps := 10000000) (disch := first | assumption | omega | (simp only [List.length_map, List.length_set, List.length_replicate, List.length_drop, List.length_take, List.length_append, List.length_cons, List.length_nil, bytes_len, strs_len] <;> omega) | with_reducible exact xor8_lt _ _ | with_reducible exact or8_lt _ _ | with_reducible exact toNat_lt8 _ | with_reducible exact rowP_ok _ _ _ _ _ | with_reducible exact rowOK_nil _ _ | (apply rowOK_put <;> first | assumption | exact rowP_ok _ _ _ _ _ | omega)) only [↓rsd, rsu, ↓reduceIte, Option.map_some, Option.map_none, Option.getD_some, Option.getD_none, List.map_cons, List.map_nil, List.cons_append, List.nil_append, List.append_nil, List.getD_cons_zero, List.getD_cons_succ, List.length_cons, List.length_nil, List.getElem?_cons_zero, List.getElem?_cons_succ, List.set_cons_zero, List.set_cons_succ, Nat.reduceEqDiff, Nat.reduceBEq, Nat.reduceAdd, Nat.reduceMul, Nat.reduceSub, Int.reduceToNat, List.length_set, List.length_replicate, List.length_map, eq_self, Nat.reduceLT, Nat.reduceLeDiff, List.flatMap_cons, List.flatMap_nil, List.all_cons, List.all_nil, List.isEmpty_nil, List.isEmpty_cons, Int.reduceAdd, Int.reduceMul, Int.reduceSub, Int.reduceNeg, Int.reduceDiv, Int.reduceMod, forall_const, e1, e2, e4, o0, o1, hb, strm_cut73, fr_strm, vStore_strm, strm_all]
      rw [ht, addF_nil] at hF
      rw [← hF]
    · have hb : (t' == []) = false := by simp [ht]
      have hpl : (putL (n' % 64) (t'.take (64 - n' % 64)) B').length = 64 := by rw [putL_len, hB]; simp; omega
      by_cases hf : n' % 64 + min t'.length (64 - n' % 64) = 64
      · have hl := cmpr_len (sch (putL (n' % 64) (t'.take (64 - n' % 64)) B') 64) hS
        simp (maxSteps := 10000000) (disch := first | assumption | omega | (simp only [List.length_map, List.length_set, List.length_replicate, List.length_drop, List.length_take, List.length_append, List.length_cons, List.length_nil, bytes_len, strs_len] <;> omega) | with_reducible exact xor8_lt _ _ | with_reducible exact or8_lt _ _ | with_reducible exact toNat_lt8 _ | with_reducible exact rowP_ok _ _ _ _ _ | with_reducible exact rowOK_nil _ _ | (apply rowOK_put <;> first | assumption | exact rowP_ok _ _ _ _ _ | omega)) only [↓rsd, rsu, ↓reduceIte, Option.map_some, Option.map_none, Option.getD_some, Option.getD_none, List.map_cons, List.map_nil, List.cons_append, List.nil_append, List.append_nil, List.getD_cons_zero, List.getD_cons_succ, List.length_cons, List.length_nil, List.getElem?_cons_zero, List.getElem?_cons_succ, List.set_cons_zero, List.set_cons_succ, Nat.reduceEqDiff, Nat.reduceBEq, Nat.reduceAdd, Nat.reduceMul, Nat.reduceSub, Int.reduceToNat, List.length_set, List.length_replicate, List.length_map, eq_self, Nat.reduceLT, Nat.reduceLeDiff, List.flatMap_cons, List.flatMap_nil, List.all_cons, List.all_nil, List.isEmpty_nil, List.isEmpty_cons, Int.reduceAdd, Int.reduceMul, Int.reduceSub, Int.reduceNeg, Int.reduceDiv, Int.reduceMod, forall_const, e1, e2, e4, o0, o1, hb, strm_cut73, strm_cut72, strm_cut8, strm_set8, strm_set72, strm_put, frb_strm0, fr_strm, vStore_strm, strm_all, compress_okS hE]
        have hl0 : 0 < t'.length := List.length_pos_iff.2 ht
        refine ⟨_, ?_, _, _, _, _, rfl, hl, hpl, ?_, rfl, rfl⟩
        · simp; omega
        · rw [← addF_full _ _ _ _ ht hf]; exact hF
      · simp (maxSteps := 10000000) (disch := first | assumption | omega | (simp only [List.length_map, List.length_set, List.length_replicate, List.length_drop, List.length_take, List.length_append, List.length_cons, List.length_nil, bytes_len, strs_len] <;> omega) | with_reducible exact xor8_lt _ _ | with_reducible exact or8_lt _ _ | with_reducible exact toNat_lt8 _ | with_reducible exact rowP_ok _ _ _ _ _ | with_reducible exact rowOK_nil _ _ | (apply rowOK_put <;> first | assumption | exact rowP_ok _ _ _ _ _ | omega)) only [↓rsd, rsu, ↓reduceIte, Option.map_some, Option.map_none, Option.getD_some, Option.getD_none, List.map_cons, List.map_nil, List.cons_append, List.nil_append, List.append_nil, List.getD_cons_zero, List.getD_cons_succ, List.length_cons, List.length_nil, List.getElem?_cons_zero, List.getElem?_cons_succ, List.set_cons_zero, List.set_cons_succ, Nat.reduceEqDiff, Nat.reduceBEq, Nat.reduceAdd, Nat.reduceMul, Nat.reduceSub, Int.reduceToNat, List.length_set, List.length_replicate, List.length_map, eq_self, Nat.reduceLT, Nat.reduceLeDiff, List.flatMap_cons, List.flatMap_nil, List.all_cons, List.all_nil, List.isEmpty_nil, List.isEmpty_cons, Int.reduceAdd, Int.reduceMul, Int.reduceSub, Int.reduceNeg, Int.reduceDiv, Int.reduceMod, forall_const, e1, e2, e4, o0, o1, hb, strm_cut73, strm_cut72, strm_cut8, strm_set8, strm_set72, strm_put, frb_strm0, fr_strm, vStore_strm, strm_all, compress_okS hE]
        have hl0 : 0 < t'.length := List.length_pos_iff.2 ht
        refine ⟨_, ?_, _, _, _, _, rfl, hS, hpl, ?_, rfl, rfl⟩
        · simp; omega
        · rw [← addF_part _ _ _ _ ht hf]; exact hF
end Go.Proofs.YtoccgkgdhobmfaaDoor.Am.Ru

set_option maxRecDepth 100000
set_option linter.unusedSimpArgs false
set_option linter.unusedVariables false
namespace Go.Proofs.YtoccgkgdhobmfaaDoor.Am.Ru
open Go
variable {G : Nat → Option (List V)} {E : Nat → Option (CallFn → List V → Hp → Nat → Option Out)}

theorem addN_len : ∀ (f : Nat) (S : List Nat) (B : List UInt8) (n : Nat) (t : List UInt8), S.length = 8 → B.length = 64 → (addN f S B n t).1.length = 8 ∧ (addN f S B n t).2.1.length = 64 := by
  intro f
  induction f with
  | zero => intro S B n t hS hB; exact ⟨hS, hB⟩
  | succ f ih =>
    intro S B n t hS hB
    simp only [addN]
    have hpl : (putL (n % 64) (t.take (64 - n % 64)) B).length = 64 := by rw [putL_len, hB]; simp; omega
    split
    · exact ⟨hS, hB⟩
    · split
      · exact ih _ _ _ _ (cmpr_len _ hS) hpl
      · exact ih _ _ _ _ hS hpl
theorem addF_len {S : List Nat} {B : List UInt8} (n : Nat) (t : List UInt8) (hS : S.length = 8) (hB : B.length = 64) : (addF S B n t).1.length = 8 ∧ (addF S B n t).2.1.length = 64 := addN_len _ _ _ _ _ hS hB
/-- What is added at the end. -/
def padF (n : Nat) : List UInt8 := 128 :: List.replicate (zpad n) 0 ++ len8 (mul64u 8 n) 8
def endF (S : List Nat) (B : List UInt8) (n : Nat) : List UInt8 := outB (addF S B n (padF n)).1 32

set_option maxHeartbeats 4000000 in
theorem ssum_ok (hE : EOK G E) (S : List Nat) (B : List UInt8) (n : Nat) (hS : S.length = 8) (hB : B.length = 64) (hn : n < 9000000000000000000) :
    valP (cfW G T E) 21 [.agg (strm S B n)] = some (.ret (.agg ((endF S B n).map b8))) := by
  have hz := zpad_lt n
  have hal := addF_len n (padF n) hS hB
  refine vrun 8 (m := m21) hE rfl rfl rfl rfl ?_
  simp (maxSteps := 10000000) (disch := first | assumption | omega | (simp only [List.length_map, List.length_set, List.length_replicate, List.length_drop, List.length_take, List.length_append, List.length_cons, List.length_nil, bytes_len, strs_len] <;> omega) | with_reducible exact xor8_lt _ _ | with_reducible exact or8_lt _ _ | with_reducible exact toNat_lt8 _ | with_reducible exact rowP_ok _ _ _ _ _ | with_reducible exact rowOK_nil _ _ | (apply rowOK_put <;> first | assumption | exact rowP_ok _ _ _ _ _ | omega)) only [↓rsd, rsu, ↓reduceIte, Option.map_some, Option.map_none, Option.getD_some, Option.getD_none, List.map_cons, List.map_nil, List.cons_append, List.nil_append, List.append_nil, List.getD_cons_zero, List.getD_cons_succ, List.length_cons, List.length_nil, List.getElem?_cons_zero, List.getElem?_cons_succ, List.set_cons_zero, List.set_cons_succ, Nat.reduceEqDiff, Nat.reduceBEq, Nat.reduceAdd, Nat.reduceMul, Nat.reduceSub, Int.reduceToNat, List.length_set, List.length_replicate, List.length_map, eq_self, Nat.reduceLT, Nat.reduceLeDiff, List.flatMap_cons, List.flatMap_nil, List.all_cons, List.all_nil, List.isEmpty_nil, List.isEmpty_cons, Int.reduceAdd, Int.reduceMul, Int.reduceSub, Int.reduceNeg, Int.reduceDiv, Int.reduceMod, forall_const, m21, strm_cut72]
  refine go_loop2 8 (fun m s => ∃ i j : Nat, m = zpad n - i ∧ i ≤ zpad n ∧ 2 ≤ j ∧ j < s.N ∧ s.e 1 = .ptr 0 0 ∧ s.e 2 = .ptr 1 0 ∧ s.e 3 = .int .u64 (mul64u 8 n : Nat) ∧ s.e 4 = .vsl j 0 (1 + i) ∧
    s.o 0 = .box (strm S B n) ∧ s.o 1 = .box ((List.replicate 32 (0 : UInt8)).map b8) ∧ s.o j = .vec 1 (bytesV (128 :: List.replicate i 0))) (zpad n) ?_ ?_
  · refine ⟨0, 2, rfl, by omega, by omega, ?_⟩
    simp (maxSteps := 10000000) (disch := first | assumption | omega | (simp only [List.length_map, List.length_set, List.length_replicate, List.length_drop, List.length_take, List.length_append, List.length_cons, List.length_nil, bytes_len, strs_len] <;> omega) | with_reducible exact xor8_lt _ _ | with_reducible exact or8_lt _ _ | with_reducible exact toNat_lt8 _ | with_reducible exact rowP_ok _ _ _ _ _ | with_reducible exact rowOK_nil _ _ | (apply rowOK_put <;> first | assumption | exact rowP_ok _ _ _ _ _ | omega)) only [↓rsd, rsu, ↓reduceIte, Option.map_some, Option.map_none, Option.getD_some, Option.getD_none, List.map_cons, List.map_nil, List.cons_append, List.nil_append, List.append_nil, List.getD_cons_zero, List.getD_cons_succ, List.length_cons, List.length_nil, List.getElem?_cons_zero, List.getElem?_cons_succ, List.set_cons_zero, List.set_cons_succ, Nat.reduceEqDiff, Nat.reduceBEq, Nat.reduceAdd, Nat.reduceMul, Nat.reduceSub, Int.reduceToNat, List.length_set, List.length_replicate, List.length_map, eq_self, Nat.reduceLT, Nat.reduceLeDiff, List.flatMap_cons, List.flatMap_nil, List.all_cons, List.all_nil, List.isEmpty_nil, List.isEmpty_cons, Int.reduceAdd, Int.reduceMul, Int.reduceSub, Int.reduceNeg, Int.reduceDiv, Int.reduceMod, forall_const]
    rfl
  · rintro m e o N ⟨i, j, hm, hi, hj2, hj, e1, e2, e3, e4, o0, o1, oj⟩
    simp only at hj e1 e2 e3 e4 o0 o1 oj
    have n0 : ¬ (0 = N) := by omega
    have n1 : ¬ (1 = N) := by omega
    have n2 : ¬ (0 = j) := by omega
    have n3 : ¬ (1 = j) := by omega
    have hl : (128 :: List.replicate i 0 : List UInt8).length = 1 + i := by simp; omega
    by_cases hlt : i < zpad n
    · have h56 := zpad_go n i hlt
      simp (maxSteps := 10000000) (disch := first | assumption | omega | (simp only [List.length_map, List.length_set, List.length_replicate, List.length_drop, List.length_take, List.length_append, List.length_cons, List.length_nil, bytes_len, strs_len] <;> omega) | with_reducible exact xor8_lt _ _ | with_reducible exact or8_lt _ _ | with_reducible exact toNat_lt8 _ | with_reducible exact rowP_ok _ _ _ _ _ | with_reducible exact rowOK_nil _ _ | (apply rowOK_put <;> first | assumption | exact rowP_ok _ _ _ _ _ | omega)) only [↓rsd, rsu, ↓reduceIte, Option.map_some, Option.map_none, Option.getD_some, Option.getD_none, List.map_cons, List.map_nil, List.cons_append, List.nil_append, List.append_nil, List.getD_cons_zero, List.getD_cons_succ, List.length_cons, List.length_nil, List.getElem?_cons_zero, List.getElem?_cons_succ, List.set_cons_zero, List.set_cons_succ, Nat.reduceEqDiff, Nat.reduceBEq, Nat.reduceAdd, Nat.reduceMul, Nat.reduceSub, Int.reduceToNat, List.length_set, List.length_replicate, List.length_map, eq_self, Nat.reduceLT, Nat.reduceLeDiff, List.flatMap_cons, List.flatMap_nil, List.all_cons, List.all_nil, List.isEmpty_nil, List.isEmpty_cons, Int.reduceAdd, Int.reduceMul, Int.reduceSub, Int.reduceNeg, Int.reduceDiv, Int.reduceMod, forall_const, e1, e2, e3, e4, o0, o1, oj, n0, n1, n2, n3, strm_cut72]
      refine ⟨_, by omega, i + 1, N, rfl, by omega, by omega, by omega, rfl, ?_⟩
      rw [if_pos rfl, List.replicate_succ']
      rfl
    · have h56 := zpad_end n
      have hiz : i = zpad n := by omega
      rw [hiz] at e4 oj hl
      simp (maxSteps := 10000000) (disch := first | assumption | omega | (simp only [List.length_map, List.length_set, List.length_replicate, List.length_drop, List.length_take, List.length_append, List.length_cons, List.length_nil, bytes_len, strs_len] <;> omega) | with_reducible exact xor8_lt _ _ | with_reducible exact or8_lt _ _ | with_reducible exact toNat_lt8 _ | with_reducible exact rowP_ok _ _ _ _ _ | with_reducible exact rowOK_nil _ _ | (apply rowOK_put <;> first | assumption | exact rowP_ok _ _ _ _ _ | omega)) only [↓rsd, rsu, ↓reduceIte, Option.map_some, Option.map_none, Option.getD_some, Option.getD_none, List.map_cons, List.map_nil, List.cons_append, List.nil_append, List.append_nil, List.getD_cons_zero, List.getD_cons_succ, List.length_cons, List.length_nil, List.getElem?_cons_zero, List.getElem?_cons_succ, List.set_cons_zero, List.set_cons_succ, Nat.reduceEqDiff, Nat.reduceBEq, Nat.reduceAdd, Nat.reduceMul, Nat.reduceSub, Int.reduceToNat, List.length_set, List.length_replicate, List.length_map, eq_self, Nat.reduceLT, Nat.reduceLeDiff, List.flatMap_cons, List.flatMap_nil, List.all_cons, List.all_nil, List.isEmpty_nil, List.isEmpty_cons, Int.reduceAdd, Int.reduceMul, Int.reduceSub, Int.reduceNeg, Int.reduceDiv, Int.reduceMod, forall_const, e1, e2, e3, e4, o0, o1, oj, strm_cut72]
      refine go_loop2 8 (fun m s => ∃ i j : Nat, m = 8 - i ∧ i ≤ 8 ∧ 2 ≤ j ∧ j < s.N ∧ s.e 1 = .ptr 0 0 ∧ s.e 2 = .ptr 1 0 ∧ s.e 3 = .int .u64 (mul64u 8 n : Nat) ∧ s.e 4 = .vsl j 0 (1 + zpad n + i) ∧ s.e 23 = .int .i64 i ∧
        s.o 0 = .box (strm S B n) ∧ s.o 1 = .box ((List.replicate 32 (0 : UInt8)).map b8) ∧ s.o j = .vec 1 (bytesV (128 :: List.replicate (zpad n) 0 ++ len8 (mul64u 8 n) i))) 8 ?_ ?_
      · refine ⟨0, j, rfl, by omega, hj2, hj, ?_⟩
        simp (maxSteps := 10000000) (disch := first | assumption | omega | (simp only [List.length_map, List.length_set, List.length_replicate, List.length_drop, List.length_take, List.length_append, List.length_cons, List.length_nil, bytes_len, strs_len] <;> omega) | with_reducible exact xor8_lt _ _ | with_reducible exact or8_lt _ _ | with_reducible exact toNat_lt8 _ | with_reducible exact rowP_ok _ _ _ _ _ | with_reducible exact rowOK_nil _ _ | (apply rowOK_put <;> first | assumption | exact rowP_ok _ _ _ _ _ | omega)) only [↓rsd, rsu, ↓reduceIte, Option.map_some, Option.map_none, Option.getD_some, Option.getD_none, List.map_cons, List.map_nil, List.cons_append, List.nil_append, List.append_nil, List.getD_cons_zero, List.getD_cons_succ, List.length_cons, List.length_nil, List.getElem?_cons_zero, List.getElem?_cons_succ, List.set_cons_zero, List.set_cons_succ, Nat.reduceEqDiff, Nat.reduceBEq, Nat.reduceAdd, Nat.reduceMul, Nat.reduceSub, Int.reduceToNat, List.length_set, List.length_replicate, List.length_map, eq_self, Nat.reduceLT, Nat.reduceLeDiff, List.flatMap_cons, List.flatMap_nil, List.all_cons, List.all_nil, List.isEmpty_nil, List.isEmpty_cons, Int.reduceAdd, Int.reduceMul, Int.reduceSub, Int.reduceNeg, Int.reduceDiv, Int.reduceMod, forall_const, e1, e2, e3, e4, o0, o1, oj, len8]
        rfl
      · clear e1 e2 e3 e4 o0 o1 oj hj hlt h56 hiz hm hi n0 n1 n2 n3
        rintro m e o N ⟨i, j, hm, hi, hj2, hj, e1, e2, e3, e4, e23, o0, o1, oj⟩
        simp only at hj e1 e2 e3 e4 e23 o0 o1 oj
        have n0 : ¬ (0 = N) := by omega
        have n1 : ¬ (1 = N) := by omega
        have n2 : ¬ (0 = j) := by omega
        have n3 : ¬ (1 = j) := by omega
        have hl8 := len8_len (mul64u 8 n) i
        by_cases hlt : i < 8
        · simp (maxSteps := 10000000) (disch := first | assumption | omega | (simp only [List.length_map, List.length_set, List.length_replicate, List.length_drop, List.length_take, List.length_append, List.length_cons, List.length_nil, bytes_len, strs_len] <;> omega) | with_reducible exact xor8_lt _ _ | with_reducible exact or8_lt _ _ | with_reducible exact toNat_lt8 _ | with_reducible exact rowP_ok _ _ _ _ _ | with_reducible exact rowOK_nil _ _ | (apply rowOK_put <;> first | assumption | exact rowP_ok _ _ _ _ _ | omega)) only [↓rsd, rsu, ↓reduceIte, Option.map_some, Option.map_none, Option.getD_some, Option.getD_none, List.map_cons, List.map_nil, List.cons_append, List.nil_append, List.append_nil, List.getD_cons_zero, List.getD_cons_succ, List.length_cons, List.length_nil, List.getElem?_cons_zero, List.getElem?_cons_succ, List.set_cons_zero, List.set_cons_succ, Nat.reduceEqDiff, Nat.reduceBEq, Nat.reduceAdd, Nat.reduceMul, Nat.reduceSub, Int.reduceToNat, List.length_set, List.length_replicate, List.length_map, eq_self, Nat.reduceLT, Nat.reduceLeDiff, List.flatMap_cons, List.flatMap_nil, List.all_cons, List.all_nil, List.isEmpty_nil, List.isEmpty_cons, Int.reduceAdd, Int.reduceMul, Int.reduceSub, Int.reduceNeg, Int.reduceDiv, Int.reduceMod, forall_const, e1, e2, e3, e4, e23, o0, o1, oj, n0, n1, n2, n3]
          refine ⟨_, by omega, i + 1, N, rfl, by omega, by omega, by omega, rfl, rfl, ?_⟩
          rw [if_pos rfl, len8, List.append_assoc]
        · have hi8 : i = 8 := by omega
          rw [hi8] at e4 oj hl8
          have hpl : (padF n).length = 1 + zpad n + 8 := by unfold padF; simp [hl8]; omega
          have oj' : o j = .vec 1 (bytesV (padF n)) := oj
          simp (maxSteps := 10000000) (disch := first | assumption | omega | (simp only [List.length_map, List.length_set, List.length_replicate, List.length_drop, List.length_take, List.length_append, List.length_cons, List.length_nil, bytes_len, strs_len] <;> omega) | with_reducible exact xor8_lt _ _ | with_reducible exact or8_lt _ _ | with_reducible exact toNat_lt8 _ | with_reducible exact rowP_ok _ _ _ _ _ | with_reducible exact rowOK_nil _ _ | (apply rowOK_put <;> first | assumption | exact rowP_ok _ _ _ _ _ | omega)) only [↓rsd, rsu, ↓reduceIte, Option.map_some, Option.map_none, Option.getD_some, Option.getD_none, List.map_cons, List.map_nil, List.cons_append, List.nil_append, List.append_nil, List.getD_cons_zero, List.getD_cons_succ, List.length_cons, List.length_nil, List.getElem?_cons_zero, List.getElem?_cons_succ, List.set_cons_zero, List.set_cons_succ, Nat.reduceEqDiff, Nat.reduceBEq, Nat.reduceAdd, Nat.reduceMul, Nat.reduceSub, Int.reduceToNat, List.length_set, List.length_replicate, List.length_map, eq_self, Nat.reduceLT, Nat.reduceLeDiff, List.flatMap_cons, List.flatMap_nil, List.all_cons, List.all_nil, List.isEmpty_nil, List.isEmpty_cons, Int.reduceAdd, Int.reduceMul, Int.reduceSub, Int.reduceNeg, Int.reduceDiv, Int.reduceMod, forall_const, e1, e2, e3, e4, e23, o0, o1, oj', n0, n1, n2, n3, strm_cut73, strm_all, vStore_strm, fr_strm, add_ok hE _ _ _ _ hS hB, sc_strm]
          refine go_loop2 8 (fun m s => ∃ j : Nat, m = 32 - j ∧ j ≤ 32 ∧ s.N = N + 1 ∧ s.e 1 = .ptr 0 0 ∧ s.e 2 = .ptr 1 0 ∧ s.e 6 = .ptr N 0 ∧ s.e 40 = .int .i64 j ∧
            s.o 0 = .box (strm (addF S B n (padF n)).1 (addF S B n (padF n)).2.1 (addF S B n (padF n)).2.2) ∧ s.o 1 = .box ((List.replicate 32 (0 : UInt8)).map b8) ∧ s.o N = .box ((outB (addF S B n (padF n)).1 j).map b8)) 32 ?_ ?_
          · refine ⟨0, rfl, by omega, rfl, ?_⟩
            simp (maxSteps := 10000000) (disch := first | assumption | omega | (simp only [List.length_map, List.length_set, List.length_replicate, List.length_drop, List.length_take, List.length_append, List.length_cons, List.length_nil, bytes_len, strs_len] <;> omega) | with_reducible exact xor8_lt _ _ | with_reducible exact or8_lt _ _ | with_reducible exact toNat_lt8 _ | with_reducible exact rowP_ok _ _ _ _ _ | with_reducible exact rowOK_nil _ _ | (apply rowOK_put <;> first | assumption | exact rowP_ok _ _ _ _ _ | omega)) only [↓rsd, rsu, ↓reduceIte, Option.map_some, Option.map_none, Option.getD_some, Option.getD_none, List.map_cons, List.map_nil, List.cons_append, List.nil_append, List.append_nil, List.getD_cons_zero, List.getD_cons_succ, List.length_cons, List.length_nil, List.getElem?_cons_zero, List.getElem?_cons_succ, List.set_cons_zero, List.set_cons_succ, Nat.reduceEqDiff, Nat.reduceBEq, Nat.reduceAdd, Nat.reduceMul, Nat.reduceSub, Int.reduceToNat, List.length_set, List.length_replicate, List.length_map, eq_self, Nat.reduceLT, Nat.reduceLeDiff, List.flatMap_cons, List.flatMap_nil, List.all_cons, List.all_nil, List.isEmpty_nil, List.isEmpty_cons, Int.reduceAdd, Int.reduceMul, Int.reduceSub, Int.reduceNeg, Int.reduceDiv, Int.reduceMod, forall_const, e1, e2, e3, e4, o0, o1, n0, n1]
            exact ⟨rfl, rfl⟩
          · clear e1 e2 e3 e4 e23 o0 o1 oj oj'
            rintro m e o N' ⟨j, hm, hj, rfl, e1, e2, e6, e40, o0, o1, oN⟩
            simp only at e1 e2 e6 e40 o0 o1 oN
            have hol := outB_len (addF S B n (padF n)).1 j
            by_cases hjl : j < 32
            · simp (maxSteps := 10000000) (disch := first | assumption | omega | (simp only [List.length_map, List.length_set, List.length_replicate, List.length_drop, List.length_take, List.length_append, List.length_cons, List.length_nil, bytes_len, strs_len] <;> omega) | with_reducible exact xor8_lt _ _ | with_reducible exact or8_lt _ _ | with_reducible exact toNat_lt8 _ | with_reducible exact rowP_ok _ _ _ _ _ | with_reducible exact rowOK_nil _ _ | (apply rowOK_put <;> first | assumption | exact rowP_ok _ _ _ _ _ | omega)) only [↓rsd, rsu, ↓reduceIte, Option.map_some, Option.map_none, Option.getD_some, Option.getD_none, List.map_cons, List.map_nil, List.cons_append, List.nil_append, List.append_nil, List.getD_cons_zero, List.getD_cons_succ, List.length_cons, List.length_nil, List.getElem?_cons_zero, List.getElem?_cons_succ, List.set_cons_zero, List.set_cons_succ, Nat.reduceEqDiff, Nat.reduceBEq, Nat.reduceAdd, Nat.reduceMul, Nat.reduceSub, Int.reduceToNat, List.length_set, List.length_replicate, List.length_map, eq_self, Nat.reduceLT, Nat.reduceLeDiff, List.flatMap_cons, List.flatMap_nil, List.all_cons, List.all_nil, List.isEmpty_nil, List.isEmpty_cons, Int.reduceAdd, Int.reduceMul, Int.reduceSub, Int.reduceNeg, Int.reduceDiv, Int.reduceMod, forall_const, e1, e2, e6, e40, o0, o1, oN, n0, n1, strm_cut1]
              exact ⟨_, by omega, j + 1, rfl, by omega, rfl, rfl⟩
            · simp (maxSteps := 10000000) (disch := first | assumption | omega | (simp only [List.length_map, List.length_set, List.length_replicate, List.length_drop, List.length_take, List.length_append, List.length_cons, List.length_nil, bytes_len, strs_len] <;> omega) | with_reducible exact xor8_lt _ _ | with_reducible exact or8_lt _ _ | with_reducible exact toNat_lt8 _ | with_reducible exact rowP_ok _ _ _ _ _ | with_reducible exact rowOK_nil _ _ | (apply rowOK_put <;> first | assumption | exact rowP_ok _ _ _ _ _ | omega)) only [↓rsd, rsu, ↓reduceIte, Option.map_some, Option.map_none, Option.getD_some, Option.getD_none, List.map_cons, List.map_nil, List.cons_append, List.nil_append, List.append_nil, List.getD_cons_zero, List.getD_cons_succ, List.length_cons, List.length_nil, List.getElem?_cons_zero, List.getElem?_cons_succ, List.set_cons_zero, List.set_cons_succ, Nat.reduceEqDiff, Nat.reduceBEq, Nat.reduceAdd, Nat.reduceMul, Nat.reduceSub, Int.reduceToNat, List.length_set, List.length_replicate, List.length_map, eq_self, Nat.reduceLT, Nat.reduceLeDiff, List.flatMap_cons, List.flatMap_nil, List.all_cons, List.all_nil, List.isEmpty_nil, List.isEmpty_cons, Int.reduceAdd, Int.reduceMul, Int.reduceSub, Int.reduceNeg, Int.reduceDiv, Int.reduceMod, forall_const, e1, e2, e6, e40, o0, o1, oN, n0, n1]
              have hj32 : j = 32 := by omega
              rw [hj32]; rfl
end Go.Proofs.YtoccgkgdhobmfaaDoor.Am.Ru
