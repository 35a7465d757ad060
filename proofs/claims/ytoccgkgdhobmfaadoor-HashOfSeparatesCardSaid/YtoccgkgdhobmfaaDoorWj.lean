/- The abstract machine and the contracts of the program, part Wj. -/
import Derived.Test.YtoccgkgdhobmfaaDoorWi
import Derived.KernelRfl
set_option maxRecDepth 100000
set_option linter.unusedSimpArgs false
set_option linter.unusedVariables false
namespace Go.Proofs.YtoccgkgdhobmfaaDoor.Am.Ru
open Go

/-! ### One schedule -/
theorem getD_set_eq {α : Type} (l : List α) (i : Nat) (x d : α) (h : i < l.length) : (l.set i x).getD i d = x := by
  simp [List.getD, h]
theorem getD_set_ne {α : Type} (l : List α) (i j : Nat) (x d : α) (h : i ≠ j) : (l.set i x).getD j d = l.getD j d := by
  simp [List.getD, List.getElem?_set, h]
theorem or_add (x y i : Nat) (h : y < 2 ^ i) : x <<< i ||| y = x * 2 ^ i + y := by
  rw [← Nat.shiftLeft_add_eq_or_of_lt h, Nat.shiftLeft_eq]
theorem acc_step (v y : Nat) (hv : v < 16777216) (hy : y < 256) : or32 (shl32 v 8) y = v * 256 + y := by
  unfold or32 shl32
  have h1 : v <<< 8 % 4294967296 = v <<< 8 := by rw [Nat.shiftLeft_eq]; omega
  rw [h1, or_add v y 8 (by simpa using hy)]; omega
theorem wrd_add (a b c d : Nat) (ha : a < 256) (hb : b < 256) (hc : c < 256) (hd : d < 256) :
    or32 (or32 (or32 (shl32 a 24) (shl32 b 16)) (shl32 c 8)) d = ((a * 256 + b) * 256 + c) * 256 + d := by
  have h1 : shl32 a 24 = a * 16777216 := by unfold shl32; rw [Nat.shiftLeft_eq]; omega
  have h2 : shl32 b 16 = b * 65536 := by unfold shl32; rw [Nat.shiftLeft_eq]; omega
  have h3 : shl32 c 8 = c * 256 := by unfold shl32; rw [Nat.shiftLeft_eq]; omega
  have e1 : a * 16777216 ||| b * 65536 = a * 16777216 + b * 65536 := by
    have := or_add a (b * 65536) 24 (by omega); rw [Nat.shiftLeft_eq] at this; exact this
  have e2 : (a * 256 + b) * 65536 ||| c * 256 = (a * 256 + b) * 65536 + c * 256 := by
    have := or_add (a * 256 + b) (c * 256) 16 (by omega); rw [Nat.shiftLeft_eq] at this; exact this
  have e3 : ((a * 256 + b) * 256 + c) * 256 ||| d = ((a * 256 + b) * 256 + c) * 256 + d := by
    have := or_add ((a * 256 + b) * 256 + c) d 8 (by omega); rw [Nat.shiftLeft_eq] at this; exact this
  rw [h1, h2, h3]
  have f1 : or32 (a * 16777216) (b * 65536) = (a * 256 + b) * 65536 := by unfold or32; rw [e1]; omega
  rw [f1]
  have f2 : or32 ((a * 256 + b) * 65536) (c * 256) = ((a * 256 + b) * 256 + c) * 256 := by unfold or32; rw [e2]; omega
  rw [f2]; unfold or32; rw [e3]; omega
theorem piece_get (b : List UInt8) (t j : Nat) (hj : j < 4) : ((b.drop (4 * t)).take (4 * t + 4 - 4 * t)).getD j 0 = b.getD (4 * t + j) 0 := by
  have : 4 * t + 4 - 4 * t = 4 := by omega
  rw [this]
  simp [List.getD, List.getElem?_take, hj, List.getElem?_drop]
theorem wi_four (b : List UInt8) (t : Nat) (ws : List Nat) (ht : t < ws.length) (h0 : ws.getD t 0 = 0) : wi b t ws 4 = ws.set t (wrd b t) := by
  have b0 := toNat_lt8 (b.getD (4 * t) 0)
  have b1 := toNat_lt8 (b.getD (4 * t + 1) 0)
  have b2 := toNat_lt8 (b.getD (4 * t + 2) 0)
  have b3 := toNat_lt8 (b.getD (4 * t + 3) 0)
  have w1 : wi b t ws 1 = ws.set t ((b.getD (4 * t) 0).toNat) := by
    rw [wi, wi, h0, piece_get _ _ _ (by omega), Nat.add_zero, acc_step _ _ (by omega) b0, Nat.zero_mul, Nat.zero_add]
  have w2 : wi b t ws 2 = ws.set t ((b.getD (4 * t) 0).toNat * 256 + (b.getD (4 * t + 1) 0).toNat) := by
    rw [wi, w1, getD_set_eq _ _ _ _ ht, piece_get _ _ _ (by omega), acc_step _ _ (by omega) b1, List.set_set]
  have w3 : wi b t ws 3 = ws.set t (((b.getD (4 * t) 0).toNat * 256 + (b.getD (4 * t + 1) 0).toNat) * 256 + (b.getD (4 * t + 2) 0).toNat) := by
    rw [wi, w2, getD_set_eq _ _ _ _ ht, piece_get _ _ _ (by omega), acc_step _ _ (by omega) b2, List.set_set]
  rw [wi, w3, getD_set_eq _ _ _ _ ht, piece_get _ _ _ (by omega), acc_step _ _ (by omega) b3, List.set_set, wrd, wrd_add _ _ _ _ b0 b1 b2 b3]
theorem ws1_zero (b : List UInt8) : ∀ i j, i ≤ j → (ws1 b i).getD j 0 = 0 := by
  intro i
  induction i with
  | zero => intro j _; rw [ws1, List.getD, List.getElem?_replicate]; split <;> rfl
  | succ i ih => intro j hj; rw [ws1, getD_set_ne _ _ _ _ _ (by omega)]; exact ih j (by omega)
theorem sch_one (b : List UInt8) : ∀ t, t ≤ 16 → sch b t = ws1 b t := by
  intro t
  induction t with
  | zero => intro _; rfl
  | succ t ih =>
    intro ht
    rw [sch, if_pos (by omega), ih (by omega), wi_four _ _ _ (by rw [ws1_len]; omega) (ws1_zero b t t (Nat.le_refl _)), ws1]
theorem sch_two (b : List UInt8) : ∀ i, sch b (16 + i) = ws2 (ws1 b 16) i := by
  intro i
  induction i with
  | zero => exact sch_one b 16 (Nat.le_refl _)
  | succ i ih => rw [show 16 + (i + 1) = (16 + i) + 1 by omega, sch, if_neg (by omega), ih, ws2]
theorem sch_ws (b : List UInt8) : sch b 64 = wsOf b := sch_two b 48

/-! ### Blocks -/
theorem blk_app (m t : List UInt8) (i : Nat) (h : 64 * (i + 1) ≤ m.length) : blk (m ++ t) i = blk m i := by
  unfold blk
  rw [List.drop_append_of_le_length (by omega), List.take_append_of_le_length (by simp; omega)]
theorem sumS_app (m t : List UInt8) : ∀ k, 64 * k ≤ m.length → sumS (m ++ t) k = sumS m k := by
  intro k
  induction k with
  | zero => intro _; rfl
  | succ k ih => intro h; rw [sumS, sumS, ih (by omega), blk_app _ _ _ h]

/-- A stream stands for a message. -/
structure Rep (m : List UInt8) (s : Strm) : Prop where
  wf : WF s
  n : s.2.2 = m.length
  st : s.1 = sumS m (m.length / 64)
  tail : s.2.1.take (m.length % 64) = m.drop (64 * (m.length / 64))
theorem rep0 : Rep [] s0 := ⟨wf0, rfl, rfl, rfl⟩
theorem putL_take {α : Type} (off : Nat) (new ws : List α) (h : off + new.length ≤ ws.length) : (putL off new ws).take (off + new.length) = ws.take off ++ new := by
  unfold putL
  rw [← List.append_assoc, List.take_append_of_le_length (by simp; omega), List.take_of_length_le (by simp; omega)]
theorem rep_add : ∀ (k : Nat) (m t : List UInt8) (s : Strm), t.length ≤ k → m.length + t.length < 1000000000000 → Rep m s → Rep (m ++ t) (addT s t) := by
  intro k
  induction k with
  | zero =>
    intro m t s hk hb h
    have : t = [] := List.length_eq_zero_iff.1 (by omega)
    subst this
    rw [List.append_nil]; exact h
  | succ k ih =>
    intro m t s hk hb h
    obtain ⟨S, B, n⟩ := s
    have hn : n = m.length := h.n
    have hS : S.length = 8 := h.wf.1
    have hB : B.length = 64 := h.wf.2
    have hst : S = sumS m (m.length / 64) := h.st
    have htl : B.take (m.length % 64) = m.drop (64 * (m.length / 64)) := h.tail
    by_cases ht : t = []
    · subst ht; rw [List.append_nil]; exact h
    have hl0 : 0 < t.length := List.length_pos_iff.2 ht
    have hmd : 64 * (m.length / 64) + m.length % 64 = m.length := Nat.div_add_mod _ _
    have hml := Nat.mod_lt m.length (by decide : 0 < 64)
    have htk : (t.take (64 - m.length % 64)).length = min t.length (64 - m.length % 64) := by simp; omega
    have hpl : (putL (m.length % 64) (t.take (64 - m.length % 64)) B).length = 64 := by rw [putL_len _ _ _ (by rw [htk, hB]; omega), hB]
    have hpt := putL_take (m.length % 64) (t.take (64 - m.length % 64)) B (by rw [htk, hB]; omega)
    rw [htl, htk] at hpt
    have hsplit : m ++ t = (m ++ t.take (64 - m.length % 64)) ++ t.drop (min t.length (64 - m.length % 64)) := by
      rw [List.append_assoc]
      congr 1
      rcases Nat.le_total t.length (64 - m.length % 64) with h1 | h1
      · rw [List.take_of_length_le h1, Nat.min_eq_left h1, List.drop_of_length_le (Nat.le_refl _), List.append_nil]
      · rw [Nat.min_eq_right h1, List.take_append_drop]
    have hadd : add64u m.length (min t.length (64 - m.length % 64) % 18446744073709551616) = m.length + min t.length (64 - m.length % 64) := by unfold add64u; omega
    have hdl : (t.drop (min t.length (64 - m.length % 64))).length = t.length - min t.length (64 - m.length % 64) := by simp
    rw [hsplit]
    by_cases hf : m.length % 64 + min t.length (64 - m.length % 64) = 64
    · have hstep : addT (S, B, n) t = addT (cmpr (sch (putL (m.length % 64) (t.take (64 - m.length % 64)) B) 64) S, putL (m.length % 64) (t.take (64 - m.length % 64)) B, m.length + min t.length (64 - m.length % 64)) (t.drop (min t.length (64 - m.length % 64))) := by
        subst hn
        have := addF_full S B m.length t ht hf
        rw [hadd] at this
        exact this
      rw [hstep]
      refine ih _ _ _ (by rw [hdl]; omega) (by rw [hdl, List.length_append, htk]; omega) ?_
      have hml2 : (m ++ t.take (64 - m.length % 64)).length = 64 * (m.length / 64 + 1) := by rw [List.length_append, htk]; omega
      have hq : (m ++ t.take (64 - m.length % 64)).length / 64 = m.length / 64 + 1 := by rw [hml2]; omega
      have hr : (m ++ t.take (64 - m.length % 64)).length % 64 = 0 := by rw [hml2]; omega
      refine ⟨⟨cmpr_len _ hS, hpl⟩, by rw [List.length_append, htk], ?_, ?_⟩
      · rw [hq]
        show cmpr (sch _ 64) S = _
        rw [sumS, sch_ws, hst, sumS_app _ _ _ (by omega)]
        congr 2
        have hb1 : blk (m ++ t.take (64 - m.length % 64)) (m.length / 64) = m.drop (64 * (m.length / 64)) ++ t.take (64 - m.length % 64) := by
          unfold blk
          rw [List.drop_append_of_le_length (by omega), List.take_of_length_le]
          rw [List.length_append, htk, List.length_drop]; omega
        rw [hb1, ← hpt, hf]
        exact (List.take_of_length_le (by omega)).symm
      · rw [hr, hq]
        rw [List.take_zero, List.drop_of_length_le (by omega)]
    · have hstep : addT (S, B, n) t = addT (S, putL (m.length % 64) (t.take (64 - m.length % 64)) B, m.length + min t.length (64 - m.length % 64)) (t.drop (min t.length (64 - m.length % 64))) := by
        subst hn
        have := addF_part S B m.length t ht hf
        rw [hadd] at this
        exact this
      rw [hstep]
      refine ih _ _ _ (by rw [hdl]; omega) (by rw [hdl, List.length_append, htk]; omega) ?_
      have hml2 : (m ++ t.take (64 - m.length % 64)).length = 64 * (m.length / 64) + (m.length % 64 + min t.length (64 - m.length % 64)) := by rw [List.length_append, htk]; omega
      have hq : (m ++ t.take (64 - m.length % 64)).length / 64 = m.length / 64 := by rw [hml2]; omega
      have hr : (m ++ t.take (64 - m.length % 64)).length % 64 = m.length % 64 + min t.length (64 - m.length % 64) := by rw [hml2]; omega
      refine ⟨⟨hS, hpl⟩, by rw [List.length_append, htk], ?_, ?_⟩
      · rw [hq, sumS_app _ _ _ (by omega)]; exact hst
      · rw [hr, hq]
        show (putL _ _ _).take _ = _
        rw [hpt, List.drop_append_of_le_length (by omega)]
theorem rep_addT {m : List UInt8} {s : Strm} (h : Rep m s) (t : List UInt8) (hb : m.length + t.length < 1000000000000) : Rep (m ++ t) (addT s t) := rep_add _ m t s (Nat.le_refl _) hb h
/-- The end of a stream is the hash value of its message. -/
theorem rep_end {m : List UInt8} {s : Strm} (h : Rep m s) (hb : m.length < 1000000000) : endT s = shaR m := by
  have hz := zpad_lt m.length
  have hpf : (padF m.length).length = 1 + zpad m.length + 8 := by unfold padF; simp [len8_len]; omega
  have hpe : m ++ padF m.length = padded m := by
    unfold padF padded bits
    rw [Nat.mod_eq_of_lt (by omega : m.length < 18446744073709551616)]; simp
  have hr := rep_addT h (padF m.length) (by rw [hpf]; omega)
  rw [hpe] at hr
  have h1 := hr.st
  show endF s.1 s.2.1 s.2.2 = _
  rw [h.n]
  show outB (addF s.1 s.2.1 m.length (padF m.length)).1 32 = _
  have h2 : addT s (padF m.length) = addF s.1 s.2.1 s.2.2 (padF m.length) := rfl
  rw [h2, h.n] at h1
  rw [h1]; rfl
theorem shaH_shaR (m : List UInt8) (hb : m.length < 1000000000) : shaH m = shaR m := by
  rw [shaH_eq]; exact rep_end (by have := rep_addT rep0 m (by simpa using (by omega : m.length < 1000000000000)); simpa using this) hb
end Go.Proofs.YtoccgkgdhobmfaaDoor.Am.Ru

set_option maxRecDepth 100000
set_option linter.unusedSimpArgs false
set_option linter.unusedVariables false
namespace Go.Proofs.YtoccgkgdhobmfaaDoor.Am.Ru
open Go

/-- All rounds, with a window of sixteen words. -/
def goF : List Nat → Nat → Nat → Nat → Nat → Nat → Nat → Nat → Nat → Nat → Nat → Nat → Nat → Nat → Nat → Nat → Nat → Nat → Nat → Nat → Nat → Nat → Nat → Nat → Nat → List Nat
  | [], a, b, c, d, e, f, g, h, _, _, _, _, _, _, _, _, _, _, _, _, _, _, _, _ => [a, b, c, d, e, f, g, h]
  | k :: ks, a, b, c, d, e, f, g, h, w0, w1, w2, w3, w4, w5, w6, w7, w8, w9, w10, w11, w12, w13, w14, w15 =>
    goF ks (add32 (rx k w0 e f g h) (ry a b c)) a b c (add32 d (rx k w0 e f g h)) e f g w1 w2 w3 w4 w5 w6 w7 w8 w9 w10 w11 w12 w13 w14 w15 (add32 (add32 (add32 w0 (sg0 w1)) w9) (sg1 w14))

/-- The words of a schedule follow from those before. -/
def Sched (W : List Nat) : Prop := ∀ t, 16 ≤ t → t < 64 → W.getD t 0 = add32 (add32 (add32 (W.getD (t - 16) 0) (sg0 (W.getD (t - 15) 0))) (W.getD (t - 7) 0)) (sg1 (W.getD (t - 2) 0))
theorem ws2_keep (ws : List Nat) (hl : ws.length = 64) : ∀ i j, j < 16 + i → ∀ k, i ≤ k → (ws2 ws k).getD j 0 = (ws2 ws i).getD j 0 := by
  intro i j hj k hk
  induction hk with
  | refl => rfl
  | step hk ih => rename_i m; rw [ws2, getD_set_ne _ _ _ _ _ (by have : i ≤ m := hk; omega)]; exact ih
theorem ws_sched (b : List UInt8) : Sched (wsOf b) := by
  intro t h1 h2
  obtain ⟨i, rfl⟩ : ∃ i, t = 16 + i := ⟨t - 16, by omega⟩
  have hl := ws1_len b 16
  have keep := ws2_keep (ws1 b 16) hl
  unfold wsOf
  rw [keep (i + 1) (16 + i) (by omega) 48 (by omega), keep i (16 + i - 16) (by omega) 48 (by omega), keep i (16 + i - 15) (by omega) 48 (by omega), keep i (16 + i - 7) (by omega) 48 (by omega), keep i (16 + i - 2) (by omega) 48 (by omega)]
  rw [ws2, getD_set_eq _ _ _ _ (by rw [ws2_len, hl]; omega)]
theorem ws_first (b : List UInt8) (j : Nat) (hj : j < 16) : (wsOf b).getD j 0 = wrd b j := by
  have hl := ws1_len b 16
  unfold wsOf
  rw [ws2_keep (ws1 b 16) hl 0 j (by omega) 48 (by omega), ws2]
  have key : ∀ k, j < k → k ≤ 16 → (ws1 b k).getD j 0 = wrd b j := by
    intro k
    induction k with
    | zero => intro h; omega
    | succ k ih =>
      intro h1 h2
      by_cases hk : j = k
      · subst hk; rw [ws1, getD_set_eq _ _ _ _ (by rw [ws1_len]; omega)]
      · rw [ws1, getD_set_ne _ _ _ _ _ (by omega)]; exact ih (by omega) (by omega)
  exact key 16 (by omega) (Nat.le_refl _)
theorem goF_ok (W : List Nat) (hW : Sched W) (S : List Nat) : ∀ (ks : List Nat) (t : Nat) (a b c d e f g h w0 w1 w2 w3 w4 w5 w6 w7 w8 w9 w10 w11 w12 w13 w14 w15 : Nat), ks = KL.drop t → t + ks.length = 64 → rounds W S t = [a, b, c, d, e, f, g, h] →
    True →
    (t + 0 < 64 → w0 = W.getD (t + 0) 0) →
    (t + 1 < 64 → w1 = W.getD (t + 1) 0) →
    (t + 2 < 64 → w2 = W.getD (t + 2) 0) →
    (t + 3 < 64 → w3 = W.getD (t + 3) 0) →
    (t + 4 < 64 → w4 = W.getD (t + 4) 0) →
    (t + 5 < 64 → w5 = W.getD (t + 5) 0) →
    (t + 6 < 64 → w6 = W.getD (t + 6) 0) →
    (t + 7 < 64 → w7 = W.getD (t + 7) 0) →
    (t + 8 < 64 → w8 = W.getD (t + 8) 0) →
    (t + 9 < 64 → w9 = W.getD (t + 9) 0) →
    (t + 10 < 64 → w10 = W.getD (t + 10) 0) →
    (t + 11 < 64 → w11 = W.getD (t + 11) 0) →
    (t + 12 < 64 → w12 = W.getD (t + 12) 0) →
    (t + 13 < 64 → w13 = W.getD (t + 13) 0) →
    (t + 14 < 64 → w14 = W.getD (t + 14) 0) →
    (t + 15 < 64 → w15 = W.getD (t + 15) 0) →
    goF ks a b c d e f g h w0 w1 w2 w3 w4 w5 w6 w7 w8 w9 w10 w11 w12 w13 w14 w15 = rounds W S 64 := by
  intro ks
  induction ks with
  | nil => intro t a b c d e f g h w0 w1 w2 w3 w4 w5 w6 w7 w8 w9 w10 w11 w12 w13 w14 w15 hk ht hr _ h0 h1 h2 h3 h4 h5 h6 h7 h8 h9 h10 h11 h12 h13 h14 h15; rw [goF, ← hr, show t = 64 by simpa using ht]
  | cons k ks ih =>
    intro t a b c d e f g h w0 w1 w2 w3 w4 w5 w6 w7 w8 w9 w10 w11 w12 w13 w14 w15 hk ht hr _ h0 h1 h2 h3 h4 h5 h6 h7 h8 h9 h10 h11 h12 h13 h14 h15
    have htl : t < 64 := by simp at ht; omega
    have hkt : KL.getD t 0 = k ∧ ks = KL.drop (t + 1) := by
      have h1 : KL.drop t = KL[t]'(by rw [KL_len]; omega) :: KL.drop (t + 1) := List.drop_eq_getElem_cons (by rw [KL_len]; omega)
      rw [h1] at hk
      injection hk with h2 h3
      refine ⟨?_, h3⟩
      rw [h2, List.getD, List.getElem?_eq_getElem (by rw [KL_len]; omega)]; rfl
    rw [goF]
    refine ih (t + 1) _ _ _ _ _ _ _ _ w1 w2 w3 w4 w5 w6 w7 w8 w9 w10 w11 w12 w13 w14 w15 _ hkt.2 (by simp at ht; omega) ?_ trivial ?_ ?_ ?_ ?_ ?_ ?_ ?_ ?_ ?_ ?_ ?_ ?_ ?_ ?_ ?_ ?_
    · rw [rounds, hr, hkt.1, ← (by rw [h0 (by omega), Nat.add_zero] : w0 = W.getD t 0)]; rfl
    · intro hh; rw [h1 (by omega), show t + 1 = t + 1 + 0 by omega]
    · intro hh; rw [h2 (by omega), show t + 2 = t + 1 + 1 by omega]
    · intro hh; rw [h3 (by omega), show t + 3 = t + 1 + 2 by omega]
    · intro hh; rw [h4 (by omega), show t + 4 = t + 1 + 3 by omega]
    · intro hh; rw [h5 (by omega), show t + 5 = t + 1 + 4 by omega]
    · intro hh; rw [h6 (by omega), show t + 6 = t + 1 + 5 by omega]
    · intro hh; rw [h7 (by omega), show t + 7 = t + 1 + 6 by omega]
    · intro hh; rw [h8 (by omega), show t + 8 = t + 1 + 7 by omega]
    · intro hh; rw [h9 (by omega), show t + 9 = t + 1 + 8 by omega]
    · intro hh; rw [h10 (by omega), show t + 10 = t + 1 + 9 by omega]
    · intro hh; rw [h11 (by omega), show t + 11 = t + 1 + 10 by omega]
    · intro hh; rw [h12 (by omega), show t + 12 = t + 1 + 11 by omega]
    · intro hh; rw [h13 (by omega), show t + 13 = t + 1 + 12 by omega]
    · intro hh; rw [h14 (by omega), show t + 14 = t + 1 + 13 by omega]
    · intro hh; rw [h15 (by omega), show t + 15 = t + 1 + 14 by omega]
    · intro hh
      rw [h0 (by omega), h1 (by omega), h9 (by omega), h14 (by omega)]
      rw [hW (t + 1 + 15) (by omega) (by omega)]
      rw [show t + 1 + 15 - 16 = t + 0 by omega, show t + 1 + 15 - 15 = t + 1 by omega, show t + 1 + 15 - 7 = t + 9 by omega, show t + 1 + 15 - 2 = t + 14 by omega]
/-- The compression, for the kernel. -/
def cmprF (w : List Nat) : List Nat → List Nat
  | [a, b, c, d, e, f, g, h] => match w with
    | [w0, w1, w2, w3, w4, w5, w6, w7, w8, w9, w10, w11, w12, w13, w14, w15] => addL [a, b, c, d, e, f, g, h] (goF KL a b c d e f g h w0 w1 w2 w3 w4 w5 w6 w7 w8 w9 w10 w11 w12 w13 w14 w15)
    | _ => []
  | _ => []
def wds (b : List UInt8) : List Nat := (List.range 16).map (wrd b)
theorem cmprF_ok (b : List UInt8) {S : List Nat} (hS : S.length = 8) : cmpr (wsOf b) S = cmprF (wds b) S := by
  obtain ⟨a, b', c, d, e, f, g, h, rfl⟩ := list8 hS
  have hw : wds b = [wrd b 0, wrd b 1, wrd b 2, wrd b 3, wrd b 4, wrd b 5, wrd b 6, wrd b 7, wrd b 8, wrd b 9, wrd b 10, wrd b 11, wrd b 12, wrd b 13, wrd b 14, wrd b 15] := rfl
  rw [hw]
  show _ = addL _ (goF KL a b' c d e f g h (wrd b 0) (wrd b 1) (wrd b 2) (wrd b 3) (wrd b 4) (wrd b 5) (wrd b 6) (wrd b 7) (wrd b 8) (wrd b 9) (wrd b 10) (wrd b 11) (wrd b 12) (wrd b 13) (wrd b 14) (wrd b 15))
  rw [goF_ok (wsOf b) (ws_sched b) [a, b', c, d, e, f, g, h] KL 0 a b' c d e f g h (wrd b 0) (wrd b 1) (wrd b 2) (wrd b 3) (wrd b 4) (wrd b 5) (wrd b 6) (wrd b 7) (wrd b 8) (wrd b 9) (wrd b 10) (wrd b 11) (wrd b 12) (wrd b 13) (wrd b 14) (wrd b 15) rfl (by rw [KL_len]) rfl trivial (fun _ => (by rw [Nat.zero_add]; exact (ws_first b 0 (by decide)).symm)) (fun _ => (by rw [Nat.zero_add]; exact (ws_first b 1 (by decide)).symm)) (fun _ => (by rw [Nat.zero_add]; exact (ws_first b 2 (by decide)).symm)) (fun _ => (by rw [Nat.zero_add]; exact (ws_first b 3 (by decide)).symm)) (fun _ => (by rw [Nat.zero_add]; exact (ws_first b 4 (by decide)).symm)) (fun _ => (by rw [Nat.zero_add]; exact (ws_first b 5 (by decide)).symm)) (fun _ => (by rw [Nat.zero_add]; exact (ws_first b 6 (by decide)).symm)) (fun _ => (by rw [Nat.zero_add]; exact (ws_first b 7 (by decide)).symm)) (fun _ => (by rw [Nat.zero_add]; exact (ws_first b 8 (by decide)).symm)) (fun _ => (by rw [Nat.zero_add]; exact (ws_first b 9 (by decide)).symm)) (fun _ => (by rw [Nat.zero_add]; exact (ws_first b 10 (by decide)).symm)) (fun _ => (by rw [Nat.zero_add]; exact (ws_first b 11 (by decide)).symm)) (fun _ => (by rw [Nat.zero_add]; exact (ws_first b 12 (by decide)).symm)) (fun _ => (by rw [Nat.zero_add]; exact (ws_first b 13 (by decide)).symm)) (fun _ => (by rw [Nat.zero_add]; exact (ws_first b 14 (by decide)).symm)) (fun _ => (by rw [Nat.zero_add]; exact (ws_first b 15 (by decide)).symm))]
  rfl
end Go.Proofs.YtoccgkgdhobmfaaDoor.Am.Ru

set_option maxRecDepth 100000
set_option linter.unusedSimpArgs false
set_option linter.unusedVariables false
namespace Go.Proofs.YtoccgkgdhobmfaaDoor.Am.Ru
open Go

/-! ### Evaluation by the kernel -/
def sumF (m : List UInt8) : Nat → List Nat
  | 0 => IV
  | i + 1 => cmprF (wds (blk m i)) (sumF m i)
theorem sumS_len (m : List UInt8) (i : Nat) : (sumS m i).length = 8 := by
  induction i with
  | zero => rfl
  | succ i ih => exact cmpr_len _ ih
theorem sumF_ok (m : List UInt8) (i : Nat) : sumS m i = sumF m i := by
  induction i with
  | zero => rfl
  | succ i ih => rw [sumS, sumF, cmprF_ok _ (sumS_len m i), ih]
/-- The bytes of a hash value, as numbers. -/
def outN : List Nat → List Nat
  | [] => []
  | s :: r => shr32 s 24 % 256 :: shr32 s 16 % 256 :: shr32 s 8 % 256 :: shr32 s 0 % 256 :: outN r
theorem outB_get (S : List Nat) : ∀ i j, j < i → i ≤ 32 → (outB S i).getD j 0 = UInt8.ofNat (shr32 (S.getD (j / 4) 0) (24 - 8 * (j % 4)) % 256) := by
  intro i
  induction i with
  | zero => intro j h; omega
  | succ i ih =>
    intro j h h32
    have hl := outB_len S i
    by_cases hj : j = i
    · subst hj; rw [outB, getD_set_eq _ _ _ _ (by omega)]
    · rw [outB, getD_set_ne _ _ _ _ _ (by omega)]; exact ih j (by omega) (by omega)
theorem outN_len (S : List Nat) : (outN S).length = 4 * S.length := by
  induction S with
  | nil => rfl
  | cons s S ih => simp [outN, ih]; omega
theorem outN_get : ∀ (S : List Nat) (j : Nat), j < 4 * S.length → (outN S).getD j 0 = shr32 (S.getD (j / 4) 0) (24 - 8 * (j % 4)) % 256 := by
  intro S
  induction S with
  | nil => intro j h; simp at h
  | cons s S ih =>
    intro j h
    rcases Nat.lt_or_ge j 4 with h4 | h4
    · have : j = 0 ∨ j = 1 ∨ j = 2 ∨ j = 3 := by omega
      rcases this with rfl | rfl | rfl | rfl <;> simp [outN, List.getD]
    · obtain ⟨k, rfl⟩ : ∃ k, j = k + 4 := ⟨j - 4, by omega⟩
      have h1 : (k + 4) / 4 = k / 4 + 1 := by omega
      have h2 : (k + 4) % 4 = k % 4 := by omega
      rw [h1, h2, List.getD_cons_succ, ← ih k (by simp at h; omega)]
      rw [outN, List.getD_cons_succ, List.getD_cons_succ, List.getD_cons_succ, List.getD_cons_succ]
theorem outB_out {S : List Nat} (hS : S.length = 8) : outB S 32 = (outN S).map UInt8.ofNat := by
  have hg : ∀ j, j < 32 → (outB S 32).getD j 0 = UInt8.ofNat (shr32 (S.getD (j / 4) 0) (24 - 8 * (j % 4)) % 256) := fun j hj => outB_get S 32 j hj (Nat.le_refl _)
  have hl := outB_len S 32
  have hn := outN_len S
  generalize outB S 32 = L at *
  apply List.ext_getElem
  · rw [hl, List.length_map, hn, hS]
  · intro j h1 h2
    rw [hl] at h1
    have h3 := hg j h1
    have h4 : L[j] = L.getD j 0 := by simp [List.getD, hl, h1]
    have h5 := outN_get S j (by omega)
    have h6 : (outN S)[j]'(by omega) = (outN S).getD j 0 := by
      rw [List.getD, List.getElem?_eq_getElem (by omega)]; rfl
    rw [h4, h3, List.getElem_map, h6, h5]
def shaN (b : List UInt8) : List Nat := outN (sumF (padded b) ((padded b).length / 64))
theorem shaN_ok (b : List UInt8) : shaR b = (shaN b).map UInt8.ofNat := by
  unfold shaR shaN
  rw [← sumF_ok, outB_out (sumS_len _ _)]
def natsEq : List Nat → List Nat → Bool
  | [], [] => true
  | a :: r, b :: q => Nat.beq a b && natsEq r q
  | _, _ => false
theorem natsEq_ok : ∀ {a b : List Nat}, natsEq a b = true → a = b := by
  intro a
  induction a with
  | nil => intro b h; cases b with
    | nil => rfl
    | cons c b => cases h
  | cons x a ih =>
    intro b h
    cases b with
    | nil => cases h
    | cons y b =>
      simp only [natsEq, Bool.and_eq_true] at h
      rw [Nat.eq_of_beq_eq_true h.1, ih h.2]
theorem sha_of {b : List UInt8} {l : List Nat} (h : natsEq (shaN b) l = true) : shaR b = l.map UInt8.ofNat := by
  rw [shaN_ok, natsEq_ok h]
theorem num_abc : natsEq (shaN [97, 98, 99]) [186, 120, 22, 191, 143, 1, 207, 234, 65, 65, 64, 222, 93, 174, 34, 35, 176, 3, 97, 163, 150, 23, 122, 156, 180, 16, 255, 97, 242, 0, 21, 173] = true := by kernel_rfl
end Go.Proofs.YtoccgkgdhobmfaaDoor.Am.Ru

set_option maxRecDepth 100000
set_option linter.unusedSimpArgs false
set_option linter.unusedVariables false
namespace Go.Proofs.YtoccgkgdhobmfaaDoor.Am.Ru
open Go

/-! ### Codes and digests: package hash does what the specification says -/
theorem add_end (a b : List UInt8) (h : a.length + b.length < 1000000000) : endT (addT (addT s0 a) b) = shaR (a ++ b) := by
  have h1 := rep_addT rep0 a (by simp; omega)
  rw [List.nil_append] at h1
  exact rep_end (rep_addT h1 b (by omega)) (by rw [List.length_append]; omega)
def padK (K : List UInt8) : List UInt8 := putL 0 (K.take 64) (List.replicate 64 0)
theorem padK_len (K : List UInt8) : (padK K).length = 64 := by
  unfold padK; rw [putL_len]; simp; simp; omega
theorem padK_get (K : List UInt8) (hK : K.length ≤ 64) (j : Nat) (hj : j < 64) : (padK K).getD j 0 = if j < K.length then K.getD j 0 else 0 := by
  unfold padK putL
  rw [List.take_zero, List.nil_append, List.take_of_length_le hK, Nat.zero_add]
  split
  · rename_i h
    simp [List.getD, List.getElem?_append_left h]
  · rename_i h
    rw [List.getD, List.getElem?_append_right (by omega), List.getElem?_drop, List.getElem?_replicate]
    split <;> rfl
theorem mk_pk (K : List UInt8) (w : Nat) (hK : K.length ≤ 64) : ∀ i, i ≤ 64 → mk K w i = pk K w i ++ (padK K).drop i := by
  intro i
  induction i with
  | zero => intro _; rfl
  | succ i ih =>
    intro h
    have hpl := padK_len K
    have hkl := pk_len K w i
    have hd : (padK K).drop i = (padK K).getD i 0 :: (padK K).drop (i + 1) := by
      rw [List.drop_eq_getElem_cons (by omega)]; simp [List.getD, hpl, (by omega : i < 64)]
    have hg : (mk K w i).getD i 0 = (padK K).getD i 0 := by
      rw [ih (by omega), List.getD, List.getElem?_append_right (by omega), hkl, Nat.sub_self, hd]; rfl
    have hp : ((padK K).getD i 0).toNat = if i < K.length then (K.getD i 0).toNat else 0 := by
      rw [padK_get K hK i (by omega)]; split <;> rfl
    rw [mk, hg, hp, ih (by omega), pk, List.set_append_right _ _ (by omega), hkl, Nat.sub_self, hd, List.append_assoc]
    rfl
theorem mk_pk64 (K : List UInt8) (w : Nat) (hK : K.length ≤ 64) : mk K w 64 = pk K w 64 := by
  rw [mk_pk K w hK 64 (Nat.le_refl _), List.drop_of_length_le (by rw [padK_len]; exact Nat.le_refl _), List.append_nil]
theorem keyHR (key : List UInt8) (h : key.length < 1000000000) : keyH key = keyR key := by
  unfold keyH keyR; rw [shaH_shaR _ h]
theorem mac_same (key text : List UInt8) (hk : key.length ≤ 900000) (ht : text.length ≤ 900000) : macH key text = macR key text := by
  have hl := keyR_len key
  unfold macH macR
  rw [keyHR _ (by omega), mk_pk64 _ _ hl, mk_pk64 _ _ hl, add_end (pk (keyR key) 54 64) text (by rw [pk_len]; omega), add_end _ _ (by rw [pk_len, shaR_len]; omega)]
theorem rep_fold : ∀ (l : List (List UInt8)) (m : List UInt8) (s : Strm), m.length + l.flatten.length < 1000000000000 → Rep m s → Rep (m ++ l.flatten) (l.foldl addT s) := by
  intro l
  induction l with
  | nil => intro m s _ h; simpa using h
  | cons a l ih =>
    intro m s hb h
    simp only [List.flatten_cons, List.length_append] at hb
    rw [List.foldl_cons, List.flatten_cons, ← List.append_assoc]
    exact ih _ _ (by rw [List.length_append]; omega) (rep_addT h a (by omega))
theorem of_same (tag : Int) {parts : List (List UInt8)} (hf : few parts) : ofH tag parts = ofR tag parts := by
  have hl := inputR_len hf (tag % 256).toNat
  have h1 := rep_addT rep0 [UInt8.ofNat (tag % 256).toNat] (by simp)
  rw [List.nil_append] at h1
  have hlen : (inputR (tag % 256).toNat parts).length = 1 + (parts.map strB).flatten.length := by unfold inputR; simp; omega
  have h2 := rep_fold (parts.map strB) _ _ (by simp only [List.length_cons, List.length_nil]; omega) h1
  have h3 : endT (ofS (tag % 256).toNat parts) = shaR (inputR (tag % 256).toNat parts) := rep_end h2 (by show (inputR (tag % 256).toNat parts).length < _; omega)
  unfold ofH ofR
  rw [h3]

/-! ### The examples -/
theorem num_end : endT (addT (addT s0 [97]) [98, 99]) = shaH [97, 98, 99] := by
  rw [add_end _ _ (by decide), shaH_shaR _ (by decide)]; rfl
def abcV : List UInt8 := [186, 120, 22, 191, 143, 1, 207, 234, 65, 65, 64, 222, 93, 174, 34, 35, 176, 3, 97, 163, 150, 23, 122, 156, 180, 16, 255, 97, 242, 0, 21, 173]
theorem num_sha : shaH [97, 98, 99] = abcV := by
  rw [shaH_shaR _ (by decide), sha_of num_abc]; rfl
def ofV : List UInt8 := [54, 205, 80, 133, 3, 41, 248, 132, 6, 227, 27, 184, 167, 216, 251, 98]
theorem num_of0 : natsEq (shaN (inputR 8 [[97], []])) [54, 205, 80, 133, 3, 41, 248, 132, 6, 227, 27, 184, 167, 216, 251, 98, 14, 118, 198, 112, 165, 195, 11, 158, 192, 170, 190, 22, 148, 0, 123, 21] = true := by kernel_rfl
theorem num_of : ofH 8 [[97], []] = ofV := by
  rw [of_same _ ⟨by decide, by decide⟩]
  show (shaR (inputR 8 [[97], []])).take 16 = _
  rw [sha_of num_of0]; rfl
def jefe : List UInt8 := [74, 101, 102, 101]
def want : List UInt8 := [119, 104, 97, 116, 32, 100, 111, 32, 121, 97, 32, 119, 97, 110, 116, 32, 102, 111, 114, 32, 110, 111, 116, 104, 105, 110, 103, 63]
/-- The inner hash value of the example. -/
def innV : List Nat := shaN (pk jefe 54 64 ++ want)
def macV : List UInt8 := [91, 220, 193, 70, 191, 96, 117, 78, 106, 4, 36, 38, 8, 149, 117, 199, 90, 0, 63, 8, 157, 39, 57, 131, 157, 236, 88, 185, 100, 236, 56, 67]
theorem num_mac0 : natsEq (shaN (pk jefe 92 64 ++ (shaN (pk jefe 54 64 ++ want)).map UInt8.ofNat)) [91, 220, 193, 70, 191, 96, 117, 78, 106, 4, 36, 38, 8, 149, 117, 199, 90, 0, 63, 8, 157, 39, 57, 131, 157, 236, 88, 185, 100, 236, 56, 67] = true := by kernel_rfl
theorem num_mac : macH jefe want = macV := by
  rw [mac_same _ _ (by decide) (by decide)]
  unfold macR
  have hk : keyR jefe = jefe := by unfold keyR; rw [if_neg (by decide)]
  rw [hk, shaN_ok (pk jefe 54 64 ++ want), sha_of num_mac0]; rfl
end Go.Proofs.YtoccgkgdhobmfaaDoor.Am.Ru

set_option maxRecDepth 100000
set_option linter.unusedSimpArgs false
set_option linter.unusedVariables false
namespace Go.Proofs.YtoccgkgdhobmfaaDoor.Am.Ru
open Go
variable {G : Nat → Option (List V)} {E : Nat → Option (CallFn → List V → Hp → Nat → Option Out)}

theorem eqc_b8 : ∀ (n : Nat) (ws us : List UInt8), ws.length = n → us.length = n → eqCells (List.replicate n 1) (ws.map b8) (us.map b8) = some (ws == us) := by
  intro n
  induction n with
  | zero =>
    intro ws us h h'
    rw [List.length_eq_zero_iff.1 h, List.length_eq_zero_iff.1 h']; rfl
  | succ n ih =>
    intro ws us h h'
    match ws, us, h, h' with
    | a :: ws, b :: us, h, h' =>
      have he : eqK 1 (b8 a) (b8 b) = some (a == b) := by
        simp only [b8, eqK, if_true]
        congr 1
        by_cases hab : a = b
        · subst hab; simp
        · have : a.toNat ≠ b.toNat := fun h => hab (UInt8.toNat_inj.1 h)
          have h2 : ((a.toNat : Int) == (b.toNat : Int)) = false := by rw [beq_eq_false_iff_ne]; omega
          rw [h2]; simp [hab]
      rw [List.replicate_succ, List.map_cons, List.map_cons, eqCells_cons, he, ih ws us (by simpa using h) (by simpa using h'), eqR_some]
      rfl
theorem eqc32 (ws us : List UInt8) (h : ws.length = 32) (h' : us.length = 32) : eqCells [1, 1, 1, 1, 1, 1, 1, 1, 1, 1, 1, 1, 1, 1, 1, 1, 1, 1, 1, 1, 1, 1, 1, 1, 1, 1, 1, 1, 1, 1, 1, 1] (ws.map b8) (us.map b8) = some (ws == us) := eqc_b8 32 ws us h h'
theorem eqc16 (ws us : List UInt8) (h : ws.length = 16) (h' : us.length = 16) : eqCells [1, 1, 1, 1, 1, 1, 1, 1, 1, 1, 1, 1, 1, 1, 1, 1] (ws.map b8) (us.map b8) = some (ws == us) := eqc_b8 16 ws us h h'
theorem ofH_len (tag : Int) (parts : List (List UInt8)) : (ofH tag parts).length = 16 := by unfold ofH; have := endT_len (ofS (tag % 256).toNat parts); simp; omega
theorem macH_len (key text : List UInt8) : (macH key text).length = 32 := endT_len _

set_option maxHeartbeats 4000000 in
theorem san_ok (hE : EOK G E) : valP (cfW G T E) 14 [] = some (.ret (.bool true)) := by
  have hab : ([[V.int .u8 ((97 : Nat) : Int)], [V.int .u8 ((98 : Nat) : Int)], [V.int .u8 ((99 : Nat) : Int)]] : List (List V)) = bytesV [97, 98, 99] := rfl
  have hs := shaH_len [97, 98, 99]
  have w0 := wf0
  have w1 := wf_add wf0 [97]
  have w2 := wf_add w1 [98, 99]
  have hn2 : (addT (addT s0 [97]) [98, 99]).2.2 = 3 := by rw [addT_n _ _ (by rw [addT_n _ _ (by decide)]; decide), addT_n _ _ (by decide)]; rfl
  have he := endT_len (addT (addT s0 [97]) [98, 99])
  have hf : few [[97], []] := ⟨by decide, by decide⟩
  have ho := ofH_len 8 [[97], []]
  have hof : valP (cfW G T E) 25 [.int .i64 8, .sl 1 [[.str [97]], [.str []]]] = some (.ret (.agg ((ofH 8 [[97], []]).map b8))) := hof_ok hE 8 [[97], []] hf (by decide) (by decide)
  have hbl := macH_len [74, 101, 102, 101] [119, 104, 97, 116, 32, 100, 111, 32, 121, 97, 32, 119, 97, 110, 116, 32, 102, 111, 114, 32, 110, 111, 116, 104, 105, 110, 103, 63]
  have q1 : valP (cfW G T E) 28 [.str [97, 98], .str [97, 98]] = some (.ret (.bool true)) := equal_ok hE _ _ (by decide)
  have q2 : valP (cfW G T E) 28 [.str [97, 98], .str [97, 99]] = some (.ret (.bool false)) := equal_ok hE _ _ (by decide)
  have q3 : valP (cfW G T E) 28 [.str [], .str [97]] = some (.ret (.bool false)) := equal_ok hE _ _ (by decide)
  have q4 : valP (cfW G T E) 22 [.str [74, 101, 102, 101], .str [119, 104, 97, 116, 32, 100, 111, 32, 121, 97, 32, 119, 97, 110, 116, 32, 102, 111, 114, 32, 110, 111, 116, 104, 105, 110, 103, 63]] = some (.ret (.str macV)) := by
    have := mac_ok hE jefe want (by decide) (by decide)
    rw [num_mac] at this; exact this
  have l1 : abcV.length = 32 := rfl
  have l2 : ofV.length = 16 := rfl
  have l3 : macV.length = 32 := rfl
  have x1 : (hexL abcV == [98, 97, 55, 56, 49, 54, 98, 102, 56, 102, 48, 49, 99, 102, 101, 97, 52, 49, 52, 49, 52, 48, 100, 101, 53, 100, 97, 101, 50, 50, 50, 51, 98, 48, 48, 51, 54, 49, 97, 51, 57, 54, 49, 55, 55, 97, 57, 99, 98, 52, 49, 48, 102, 102, 54, 49, 102, 50, 48, 48, 49, 53, 97, 100]) = true := by decide
  have x3 : (hexL macV == [53, 98, 100, 99, 99, 49, 52, 54, 98, 102, 54, 48, 55, 53, 52, 101, 54, 97, 48, 52, 50, 52, 50, 54, 48, 56, 57, 53, 55, 53, 99, 55, 53, 97, 48, 48, 51, 102, 48, 56, 57, 100, 50, 55, 51, 57, 56, 51, 57, 100, 101, 99, 53, 56, 98, 57, 54, 52, 101, 99, 51, 56, 52, 51]) = true := by decide
  have x4 : (hexL ofV == [51, 54, 99, 100, 53, 48, 56, 53, 48, 51, 50, 57, 102, 56, 56, 52, 48, 54, 101, 51, 49, 98, 98, 56, 97, 55, 100, 56, 102, 98, 54, 50]) = true := by decide
  have x2 : (abcV == abcV) = true := by decide
  rw [num_end] at he
  rw [num_sha] at hs he
  rw [num_of] at ho hof
  have y1 := num_sha
  have y2 := num_end
  refine vrun 7 (m := m14) hE rfl rfl rfl rfl ?_
  simp (maxSteps := 10000000) (disch := first | assumption | omega | (simp only [List.length_map, List.length_set, List.length_replicate, List.length_drop, List.length_take, List.length_append, List.length_cons, List.length_nil, bytes_len, strs_len] <;> omega) | with_reducible exact xor8_lt _ _ | with_reducible exact or8_lt _ _ | with_reducible exact toNat_lt8 _ | with_reducible exact rowP_ok _ _ _ _ _ | with_reducible exact rowOK_nil _ _ | (apply rowOK_put <;> first | assumption | exact rowP_ok _ _ _ _ _ | omega)) only [↓rsd, rsu, ↓reduceIte, Option.map_some, Option.map_none, Option.getD_some, Option.getD_none, List.map_cons, List.map_nil, List.cons_append, List.nil_append, List.append_nil, List.getD_cons_zero, List.getD_cons_succ, List.length_cons, List.length_nil, List.getElem?_cons_zero, List.getElem?_cons_succ, List.set_cons_zero, List.set_cons_succ, Nat.reduceEqDiff, Nat.reduceBEq, Nat.reduceAdd, Nat.reduceMul, Nat.reduceSub, Int.reduceToNat, List.length_set, List.length_replicate, List.length_map, eq_self, Nat.reduceLT, Nat.reduceLeDiff, List.flatMap_cons, List.flatMap_nil, List.all_cons, List.all_nil, List.isEmpty_nil, List.isEmpty_cons, Int.reduceAdd, Int.reduceMul, Int.reduceSub, Int.reduceNeg, Int.reduceDiv, Int.reduceMod, forall_const, m14, hab, sum_ok hE, begin_okT hE, add_okT hE, ssum_okT hE, scT, frT, fmT, hof, q1, q2, q3, q4, bytes32_ok hE, hex_ok hE, eqc32, text_ok hE, num_end, num_sha, x1, x2, x3, x4]

end Go.Proofs.YtoccgkgdhobmfaaDoor.Am.Ru
