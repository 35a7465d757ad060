/- From the machine's contract to the model's call: a function that answers 'true' and touches no old block. -/
import Derived.Test.YtoccgkgdhobmfaaDoorWg
import Derived.Test.YtoccgkgdhobmfaaDoorWe
import Derived.ProofKit
import Derived.RowKit
import Derived.OpenShut
import Derived.ChangeSame
import Derived.ReadAgain
import Derived.SliceStrings
import Derived.ChangeSlices
import Derived.ChangeMaps5
set_option maxRecDepth 100000
set_option linter.unusedVariables false
set_option linter.unusedSimpArgs false
namespace Go.Proofs.YtoccgkgdhobmfaaDoor.Am.Ru
open Go Go.ChangeShapes Go.WideShapes Go.ChangeAt Go.RowKit

/-- The memory that the arguments lie in. -/
abbrev WM (W : World) : Mem := fun b => W.heap[b]?

theorem cellAt_cell {W : World} {b off : Nat} {v : Value} (h : W.cell? ⟨b, off, none⟩ = some v) : cellAt (WM W) b off = some v := by
  unfold World.cell? at h
  unfold cellAt WM
  split <;> simp_all

/-- What a call that answers true leaves. -/
theorem calls_true {P : Program} {G : Nat → Option (List V)} {cf : CallFn} (hX : CallOk P G cf) {f : Nat} {a : List V} {vargs : Array Value} {W : World}
    (h : valP cf f a = some (.ret (.bool true))) (hG : GOK (WM W) G) (hl : vargs.size = a.length) (hr : ∀ (j : Nat) v, a[j]? = some v → PRel (WM W) v (vargs.getD j undef)) :
    Calls P f vargs W (fun e W' => e = .returned (.bool true) ∧ Kp (fun _ => False) W W') := by
  unfold valP at h
  split at h
  · rename_i v o' hcf
    simp only [Option.some.injEq, CV.ret.injEq] at h
    subst h
    have hok : Ok (WM W) (fun _ => none) 0 (fun _ => False) W dd W :=
      ⟨⟨fun b x hx => hx, fun i k hk => (nomatch hk), fun i hi => absurd rfl hi, fun i j ki kj _ _ hk => (nomatch hk)⟩, Kp.refl _ _⟩
    refine ((hX f a dd 0 _ hcf).2 (WM W) (fun _ => none) W (fun _ => False) vargs hok hG hl (fun j v hj => .pure (hr j v hj))).mono ?_
    rintro e W' ⟨x, M', β', N', he, _, _, _, _, hk, hret⟩
    have : PRel M' (.bool true) x := hret
    cases this
    exact ⟨he, hk.kp⟩
  all_goals simp at h

/-- What a call that keeps the old blocks and answers true leaves, as the rows say it. -/
theorem post_true {H : Type} {enc : TypeId × Value → H} {P : Program} {f : Func} {s : ChangeSpec} {apart fresh handsOn again : Bool} {W W' : World} {args : Array Value} {ds : List (DataW H)} {before : List MemPlace} {tb : TypeId}
    (K : Kids P (· < P.types.size)) (hz : ∀ t e, t < P.types.size → P.underlying t = some (.slice e) → 0 < P.cellsOf e) (hts : ∀ t ∈ f.params.toList, t < P.types.size)
    (hW : DataW.Whole enc P f.params.toList [] apart W args.toList ds [] before) (hv : s.vars = [])
    (hs : s.fn H ds = { results := [.lit (.bool true)], args := ds })
    (hk : Kp (fun _ => False) W W') (hres : f.resultTypes = #[tb]) (hb : P.underlying tb = some .bool) :
    s.post enc P f apart fresh handsOn again W args (.bool true) W' := by
  have hold : ∀ b, b < W.heap.size → W'.heap[b]? = W.heap[b]? := fun b hb => hk.block b hb (fun h => h)
  have hlt := hW.lt
  have hcell : ∀ b off, b < W.heap.size → W'.cell? ⟨b, off, none⟩ = W.cell? ⟨b, off, none⟩ := fun b off hb => by unfold World.cell?; simp only [hold b hb]
  have hsame : ∀ p ∈ before, W.sameAt W' p := by
    intro p hp
    have := hlt p hp
    cases p with
    | cell b off => exact hcell b off this
    | map b => exact hold b this
  have hW0 := hW
  obtain ⟨pa, pv, hA, hV, hpb, hfr, hnd⟩ := hW
  obtain ⟨-, rfl⟩ := trodVars_none hV
  obtain rfl : before = pa := by simpa using hpb
  have carryT : ∀ {t v d ps} {sp : Nat → Bool}, DataW.Trod enc P W 0 sp true t v d ps → (∀ p ∈ ps, W.sameAt W' p) → DataW.Trod enc P W' 0 sp true t v d ps :=
    fun ⟨n, hn⟩ hp => ⟨n, DataW.trod_carry n _ _ _ hn hp⟩
  have carry : ∀ {sp : Nat → Bool} {ts vs ds ps}, DataW.TrodAll enc P W 0 sp true ts vs ds ps → (∀ p ∈ ps, W.sameAt W' p) → DataW.TrodAll enc P W' 0 sp true ts vs ds ps := by
    intro sp ts
    induction ts with
    | nil => intro vs ds ps h hp
             obtain ⟨rfl, rfl, rfl⟩ := trodAll_nil h
             exact trodAll_mk0
    | cons t ts ih =>
      intro vs ds ps h hp
      obtain ⟨v, vs1, d, ds1, p, q, rfl, rfl, rfl, h1, h2⟩ := trodAll_cons h
      exact ⟨p, q, carryT h1 (fun x hx => hp x (List.mem_append_left _ hx)), ih h2 (fun x hx => hp x (List.mem_append_right _ hx)), rfl⟩
  have hargs : ∀ sp : Nat → Bool, (∀ p ∈ before, sp p.block = true) → DataW.TrodAll enc P W' 0 sp true f.params.toList args.toList ds before :=
    fun sp hsp => carry (DataW.TrodAll.respare K hz hts hA hsp) hsame
  have hR : ∀ (b : Nat) (sp : Nat → Bool) (hd : Bool), DataW.TrodAll enc P W' b sp hd f.resultTypes.toList ((Value.bool true).resultList f.resultTypes.size) [.lit (.bool true)] [] := by
    intro b sp hd
    rw [hres]
    exact trodAll_cons_mk (shut_bool hb _) trodAll_mk0
  have hkb : W.keptBut W' (fun p => p ∈ before ∧ (p ∈ ([] : List MemPlace) ∨ p ∈ before ∨ p ∈ ([] : List MemPlace))) := by
    refine ⟨hk.os, hk.output, fun i hi => ?_⟩
    rw [hold i hi]
    generalize W.heap[i]? = q
    cases q with
    | none => exact rfl
    | some q =>
      cases q with
      | cells c t fr => exact ⟨rfl, rfl, rfl, fun _ _ => rfl⟩
      | map es clock => exact Or.inr ⟨rfl, rfl⟩
      | _ => exact rfl
  have hW1 : DataW.Whole enc P f.params.toList s.vars apart W args.toList ds [] before := by rw [hv]; exact hW0
  have hlast : ∀ sp : Nat → Bool, DataW.TrodVars enc P W' sp s.vars ([] : List (DataW H)) [] := by rw [hv]; exact fun _ => rfl
  refine ⟨ds, [], before, [], before, [], hW1, ?_, ?_, ?_, hkb, fun _ => ?_⟩
  · rw [List.append_nil, hs]; exact hR _ _ _
  · rw [List.append_nil, hs]; exact hargs _ (fun p hp => by simpa using hlt p hp)
  · rw [List.append_nil, hs]; exact hlast _
  · refine ⟨ok_one hres rfl (okWide_bool_mk hb _), _, _, ([] ++ before) ++ [], ⟨[] ++ before, [], trodAll_append (hargs _ (fun _ _ => rfl)) (hR _ _ _), hlast _, rfl, ?_, ?_⟩, ?_⟩
    · intro b off hp
      have hp' : MemPlace.cell b off ∈ before := by simpa using hp
      have h0 := hfr b off hp'
      have hb' := hlt _ hp'
      unfold World.frozen? at h0 ⊢
      rw [hold b hb']
      exact h0
    · intro ha
      simpa using hnd ha
    · intro p hp _
      simpa using hp
end Go.Proofs.YtoccgkgdhobmfaaDoor.Am.Ru

/- The arguments as the machine's values: strings, rows of bytes and of strings, pairs of bytes. -/
set_option maxRecDepth 100000
set_option linter.unusedVariables false
set_option linter.unusedSimpArgs false
namespace Go.Proofs.YtoccgkgdhobmfaaDoor.Am.Ru
open Go Go.ChangeShapes Go.WideShapes Go.ChangeAt Go.RowKit

section
variable {H : Type} {enc : TypeId × Value → H} {P : Program} {W : World} {r : Reach} {b0 : Nat} {sp : Nat → Bool} {held : Bool} {base : Nat}

theorem arg_int {t : TypeId} {k : IntKind} {v : Value} {d : DataW H} {p : List MemPlace} (ht : P.underlying t = some (.int k)) (hval : Value.okWide P W r b0 t v) (hd : DataW.Trod enc P W base sp held t v d p) :
    ∃ n : Int, v = .int k n ∧ k.min ≤ n ∧ n ≤ k.max := by
  obtain ⟨n, rfl, -, -, hw⟩ := open_int ht hval hd
  simp only [Lit.wf, Bool.and_eq_true, decide_eq_true_eq] at hw
  exact ⟨n, rfl, hw⟩

theorem arg_str {t : TypeId} {v : Value} {d : DataW H} {p : List MemPlace} (ht : P.underlying t = some .string) (hval : Value.okWide P W r b0 t v) (hd : DataW.Trod enc P W base sp held t v d p) :
    ∃ s : List UInt8, PRel (WM W) (.str s) v ∧ s.length ≤ 9223372036854775807 := by
  obtain ⟨s, rfl, -, -, hs⟩ := Go.ChangeMaps.open_string ht hval hd
  refine ⟨s.data.toList, ?_, ?_⟩
  · exact PRel.str s.data.toList
  · have : s.data.toList.length = s.size := Array.length_toList
    rw [this]; unfold maxLen at hs; omega

theorem spot_none {a : Addr} {v : Value} (h : W.cell? a = some v) : a.spot = none := by
  unfold World.cell? at h
  cases hs : a.spot with
  | none => rfl
  | some x =>
    rw [hs] at h
    split at h <;> simp at h

theorem arg_bytes {t e : TypeId} {v : Value} {d : DataW H} {p : List MemPlace} (ht : P.underlying t = some (.slice e)) (he : P.underlying e = some (.int .u8)) (hc : P.cellsOf e = 1)
    (hval : Value.okWide P W r b0 t v) (hd : DataW.Trod enc P W base (fun _ => true) held t v d p) :
    ∃ s : List UInt8, PRel (WM W) (.sl 1 (bytesV s)) v ∧ s.length ≤ 9223372036854775807 := by
  obtain ⟨a', len', cap', rfl⟩ := okWide_slice ht hval
  obtain ⟨fuel, hf⟩ := hd
  rcases open_ints ht he hc hf with ⟨hcs, -⟩ | ⟨a, len, cap, zs, hcs, -, hl, hm, hzl, -, hcell, hwf⟩
  · have hcs' : (Value.slice a' len' cap').cells.toList = [Value.slice a' len' cap'] := rfl
    rw [hcs'] at hcs
    simp only [List.cons.injEq, Value.slice.injEq, and_true] at hcs
    obtain ⟨rfl, rfl, rfl⟩ := hcs
    exact ⟨[], PRel.sl 1 [] none 0 0 0 (fun _ _ => undef) (Nat.le_refl _) (fun h => absurd rfl h) (fun i c h => by simp at h) (fun i c j v h => by simp at h) (fun i c j v h => by simp at h) (fun i c j v h => by simp at h), by simp⟩
  · have hcs' : (Value.slice a' len' cap').cells.toList = [Value.slice a' len' cap'] := rfl
    rw [hcs'] at hcs
    simp only [List.cons.injEq, Value.slice.injEq, and_true] at hcs
    obtain ⟨rfl, rfl, rfl⟩ := hcs
    simp only [if_true] at hzl
    let s : List UInt8 := (zs.take len').map (fun z => UInt8.ofNat z.toNat)
    have hsl : s.length = len' := by simp [s]; omega
    have hsb : ∀ i, i < len' → ((s.getD i 0).toNat : Int) = zs.getD i 0 := by
      intro i hi
      have hiz : i < zs.length := by omega
      have hw := hwf _ (List.getElem_mem hiz)
      simp only [Lit.wf, Bool.and_eq_true, decide_eq_true_eq] at hw
      have h1 : (0 : Int) ≤ zs[i] := hw.1
      have h2 : zs[i] ≤ (255 : Int) := hw.2
      have hg : s.getD i 0 = UInt8.ofNat (zs[i]).toNat := by
        simp [s, List.getD_eq_getElem?_getD, List.getElem?_take, hi, List.getElem?_eq_getElem hiz]
      rw [hg, List.getD_eq_getElem?_getD, List.getElem?_eq_getElem hiz]
      have : (zs[i]).toNat < 256 := by omega
      have h3 : (UInt8.ofNat (zs[i]).toNat).toNat = (zs[i]).toNat := by
        simp [UInt8.toNat_ofNat']; omega
      rw [h3]; simp; omega
    have hlen : (bytesV s).length = len' := by simp [bytesV, hsl]
    have hget : ∀ (i : Nat) (c : List V) (j : Nat) (v : V), (bytesV s)[i]? = some c → c[j]? = some v → j = 0 ∧ i < len' ∧ v = .int .u8 (zs.getD i 0) := by
      intro i c j v hi hj
      simp only [bytesV, List.getElem?_map, Option.map_eq_some_iff] at hi
      obtain ⟨b, hb, rfl⟩ := hi
      have hil : i < len' := by rw [← hsl]; exact (List.getElem?_eq_some_iff.1 hb).1
      have hbg : s.getD i 0 = b := by rw [List.getD_eq_getElem?_getD, hb]; rfl
      have := hsb i hil
      rw [hbg] at this
      match j, hj with
      | 0, hj =>
        simp only [byteV, List.getElem?_cons_zero, Option.some.injEq] at hj
        exact ⟨rfl, hil, by rw [← hj, this]⟩
    have hsp : ∀ i, i < len' → a.spot = none := fun i hi => by
      have := spot_none (hcell 0 (by omega))
      unfold Addr.add at this
      exact this
    refine ⟨s, ?_, by rw [hsl]; unfold maxLen at hm; omega⟩
    rw [← hlen]
    refine PRel.sl 1 (bytesV s) (some a) cap' a.block a.off (fun i _ => .int .u8 (zs.getD i 0)) (by rw [hlen]; exact hl) ?_ ?_ ?_ ?_ ?_
    · intro hne
      have : 0 < (bytesV s).length := List.length_pos_iff.2 hne
      have h0 := hsp 0 (by rw [← hlen]; exact this)
      cases a; simp_all
    · intro i c hi
      simp only [bytesV, List.getElem?_map, Option.map_eq_some_iff] at hi
      obtain ⟨b, hb, rfl⟩ := hi
      rfl
    · intro i c j v hi hj
      obtain ⟨rfl, hil, rfl⟩ := hget i c j v hi hj
      have h1 := hcell i (by omega)
      have h0 := hsp i hil
      have h2 : a.add i = ⟨a.block, a.off + (i * 1 + 0), none⟩ := by
        rw [Nat.mul_one, Nat.add_zero]; unfold Addr.add; split <;> (cases a; simp_all)
      rw [h2] at h1
      exact cellAt_cell h1
    · intro i c j v hi hj; rfl
    · intro i c j v hi hj
      obtain ⟨rfl, hil, rfl⟩ := hget i c j v hi hj
      exact PRel.int _ _
theorem arg_strs {t e : TypeId} {v : Value} {d : DataW H} {p : List MemPlace} (ht : P.underlying t = some (.slice e)) (he : P.underlying e = some .string) (hc : P.cellsOf e = 1)
    (hval : Value.okWide P W r b0 t v) (hd : DataW.Trod enc P W base (fun _ => true) held t v d p) :
    ∃ s : List (List UInt8), PRel (WM W) (.sl 1 (strsV s)) v ∧ s.length ≤ 9223372036854775807 ∧ ∀ x ∈ s, x.length ≤ 9223372036854775807 := by
  obtain ⟨a', len', cap', rfl⟩ := okWide_slice ht hval
  obtain ⟨fuel, hf⟩ := hd
  rcases open_strings ht he hc hf with ⟨hcs, -⟩ | ⟨a, len, cap, zs, hcs, -, hl, hm, hzl, -, hcell, hwf⟩
  · have hcs' : (Value.slice a' len' cap').cells.toList = [Value.slice a' len' cap'] := rfl
    rw [hcs'] at hcs
    simp only [List.cons.injEq, Value.slice.injEq, and_true] at hcs
    obtain ⟨rfl, rfl, rfl⟩ := hcs
    exact ⟨[], PRel.sl 1 [] none 0 0 0 (fun _ _ => undef) (Nat.le_refl _) (fun h => absurd rfl h) (fun i c h => by simp at h) (fun i c j v h => by simp at h) (fun i c j v h => by simp at h) (fun i c j v h => by simp at h), by simp, fun x hx => by simp at hx⟩
  · have hcs' : (Value.slice a' len' cap').cells.toList = [Value.slice a' len' cap'] := rfl
    rw [hcs'] at hcs
    simp only [List.cons.injEq, Value.slice.injEq, and_true] at hcs
    obtain ⟨rfl, rfl, rfl⟩ := hcs
    simp only [if_true] at hzl
    let s : List (List UInt8) := (zs.take len').map (fun z => z.data.toList)
    have hsl : s.length = len' := by simp [s]; omega
    have hsb : ∀ i, i < len' → s.getD i [] = (zs.getD i ByteArray.empty).data.toList := by
      intro i hi
      have hiz : i < zs.length := by omega
      simp [s, List.getD_eq_getElem?_getD, List.getElem?_take, hi, List.getElem?_eq_getElem hiz]
    have hsz : ∀ x ∈ s, x.length ≤ 9223372036854775807 := by
      intro x hx
      simp only [s, List.mem_map] at hx
      obtain ⟨z, hz, rfl⟩ := hx
      have := hwf z (List.mem_of_mem_take hz)
      have h2 : z.data.toList.length = z.size := Array.length_toList
      rw [h2]; unfold maxLen at this; omega
    have hlen : (strsV s).length = len' := by simp [strsV, hsl]
    have hget : ∀ (i : Nat) (c : List V) (j : Nat) (v : V), (strsV s)[i]? = some c → c[j]? = some v → j = 0 ∧ i < len' ∧ v = .str (zs.getD i ByteArray.empty).data.toList := by
      intro i c j v hi hj
      simp only [strsV, List.getElem?_map, Option.map_eq_some_iff] at hi
      obtain ⟨b, hb, rfl⟩ := hi
      have hil : i < len' := by rw [← hsl]; exact (List.getElem?_eq_some_iff.1 hb).1
      have hbg : s.getD i [] = b := by rw [List.getD_eq_getElem?_getD, hb]; rfl
      have := hsb i hil
      rw [hbg] at this
      match j, hj with
      | 0, hj =>
        simp only [List.getElem?_cons_zero, Option.some.injEq] at hj
        exact ⟨rfl, hil, by rw [← hj, this]⟩
    have hsp : ∀ i, i < len' → a.spot = none := fun i hi => by
      have := spot_none (hcell 0 (by omega))
      unfold Addr.add at this
      exact this
    refine ⟨s, ?_, by rw [hsl]; unfold maxLen at hm; omega, hsz⟩
    rw [← hlen]
    refine PRel.sl 1 (strsV s) (some a) cap' a.block a.off (fun i _ => .string (zs.getD i ByteArray.empty)) (by rw [hlen]; exact hl) ?_ ?_ ?_ ?_ ?_
    · intro hne
      have : 0 < (strsV s).length := List.length_pos_iff.2 hne
      have h0 := hsp 0 (by rw [← hlen]; exact this)
      cases a; simp_all
    · intro i c hi
      simp only [strsV, List.getElem?_map, Option.map_eq_some_iff] at hi
      obtain ⟨b, hb, rfl⟩ := hi
      rfl
    · intro i c j v hi hj
      obtain ⟨rfl, hil, rfl⟩ := hget i c j v hi hj
      have h1 := hcell i (by omega)
      have h0 := hsp i hil
      have h2 : a.add i = ⟨a.block, a.off + (i * 1 + 0), none⟩ := by
        rw [Nat.mul_one, Nat.add_zero]; unfold Addr.add; split <;> (cases a; simp_all)
      rw [h2] at h1
      exact cellAt_cell h1
    · intro i c j v hi hj; rfl
    · intro i c j v hi hj
      obtain ⟨rfl, hil, rfl⟩ := hget i c j v hi hj
      exact PRel.str _

theorem rel1 {M : Mem} {a : V} {v : Value} (h : PRel M a v) : ∀ (j : Nat) x, [a][j]? = some x → PRel M x ((#[v] : Array Value).getD j undef) := by
  intro j x hj
  match j, hj with
  | 0, hj => obtain rfl := Option.some.inj hj; exact h
theorem rel2 {M : Mem} {a b : V} {v w : Value} (h : PRel M a v) (k : PRel M b w) : ∀ (j : Nat) x, [a, b][j]? = some x → PRel M x ((#[v, w] : Array Value).getD j undef) := by
  intro j x hj
  match j, hj with
  | 0, hj => obtain rfl := Option.some.inj hj; exact h
  | 1, hj => obtain rfl := Option.some.inj hj; exact k
theorem rel3 {M : Mem} {a b c : V} {v w u : Value} (h : PRel M a v) (k : PRel M b w) (l : PRel M c u) : ∀ (j : Nat) x, [a, b, c][j]? = some x → PRel M x ((#[v, w, u] : Array Value).getD j undef) := by
  intro j x hj
  match j, hj with
  | 0, hj => obtain rfl := Option.some.inj hj; exact h
  | 1, hj => obtain rfl := Option.some.inj hj; exact k
  | 2, hj => obtain rfl := Option.some.inj hj; exact l

theorem okWide_array {t e : TypeId} {n : Nat} {v : Value} (ht : P.underlying t = some (.array n e)) (h : Value.okWide P W r b0 t v) : ∃ cs, v = .agg cs := by
  simp only [Value.okWide, ht] at h
  obtain ⟨cs, h1, _⟩ := h
  exact ⟨cs, h1⟩

theorem u8_nat {n : Int} (hw : (Lit.int .u8 n).wf = true) : ∃ m : Nat, m < 256 ∧ n = m := by
  simp only [Lit.wf, Bool.and_eq_true, decide_eq_true_eq] at hw
  have h1 : (0 : Int) ≤ n := hw.1
  have h2 : n ≤ (255 : Int) := hw.2
  exact ⟨n.toNat, by omega, by omega⟩

theorem arg_byte {t : TypeId} {v : Value} {d : DataW H} {p : List MemPlace} (ht : P.underlying t = some (.int .u8)) (hval : Value.okWide P W r b0 t v) (hd : DataW.Trod enc P W base sp held t v d p) :
    ∃ n : Nat, PRel (WM W) (.int .u8 n) v ∧ n < 256 := by
  obtain ⟨n, rfl, -, -, hw⟩ := open_int ht hval hd
  obtain ⟨m, hm, rfl⟩ := u8_nat hw
  exact ⟨m, PRel.int _ _, hm⟩

theorem arg_i64 {t : TypeId} {v : Value} {d : DataW H} {p : List MemPlace} (ht : P.underlying t = some (.int .i64)) (hval : Value.okWide P W r b0 t v) (hd : DataW.Trod enc P W base sp held t v d p) :
    ∃ n : Int, PRel (WM W) (.int .i64 n) v ∧ -9223372036854775808 ≤ n ∧ n < 9223372036854775808 := by
  obtain ⟨n, rfl, -, -, hw⟩ := open_int ht hval hd
  simp only [Lit.wf, Bool.and_eq_true, decide_eq_true_eq] at hw
  have h1 : (-9223372036854775808 : Int) ≤ n := hw.1
  have h2 : n ≤ (9223372036854775807 : Int) := hw.2
  exact ⟨n, PRel.int _ _, h1, by omega⟩

theorem arg_pair {t e : TypeId} {v : Value} {d : DataW H} {p : List MemPlace} (ht : P.underlying t = some (.array 2 e)) (he : P.underlying e = some (.int .u8)) (hc : P.cellsOf e = 1) (hct : P.cellsOf t = 2)
    (hval : Value.okWide P W r b0 t v) (hd : DataW.Trod enc P W base sp held t v d p) : ∃ n m : Nat, PRel (WM W) (.agg [.int .u8 n, .int .u8 m]) v ∧ n < 256 ∧ m < 256 := by
  obtain ⟨cs, rfl⟩ := okWide_array ht hval
  obtain ⟨fuel, hf⟩ := hd
  obtain ⟨xs, k, -, -, hl, hxl, hx⟩ := DataW.trod_array ht hf
  rw [hct] at hl
  have hcs : (Value.agg cs).cells.toList = cs.toList := rfl
  rw [hcs] at hl hx
  have ha := hx 0 (by omega)
  have hb := hx 1 (by omega)
  rw [hc] at ha hb
  have hl' : cs.size = 2 := by rw [← hl]; exact (Array.length_toList).symm
  obtain ⟨x0, h0⟩ : ∃ x0, xs[0]? = some x0 := ⟨xs[0]'(by omega), List.getElem?_eq_getElem (by omega)⟩
  obtain ⟨x1, h1⟩ : ∃ x1, xs[1]? = some x1 := ⟨xs[1]'(by omega), List.getElem?_eq_getElem (by omega)⟩
  rw [h0] at ha
  rw [h1] at hb
  obtain ⟨n, hn, -, hwn⟩ := DataW.trod_int he ha
  obtain ⟨m, hm, -, hwm⟩ := DataW.trod_int he hb
  obtain ⟨n', hn', rfl⟩ := u8_nat hwn
  obtain ⟨m', hm', rfl⟩ := u8_nat hwm
  obtain ⟨c0, c1, hcc⟩ : ∃ c0 c1, cs.toList = [c0, c1] := by
    match h : cs.toList, hl with
    | [c0, c1], _ => exact ⟨c0, c1, rfl⟩
  rw [hcc] at hn hm
  simp at hn hm
  obtain rfl : cs = #[c0, c1] := by rw [← Array.toArray_toList (xs := cs), hcc]
  subst hn
  subst hm
  refine ⟨n', m', PRel.agg _ _ rfl ?_ ?_, hn', hm'⟩
  · intro j v hj
    match j, hj with
    | 0, _ => rfl
    | 1, _ => rfl
  · exact rel2 (PRel.int _ _) (PRel.int _ _)
end
end Go.Proofs.YtoccgkgdhobmfaaDoor.Am.Ru
