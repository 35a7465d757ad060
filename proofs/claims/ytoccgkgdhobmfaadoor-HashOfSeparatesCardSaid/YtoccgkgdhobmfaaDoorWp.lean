/- The seat's part: the tables, the calls. -/
import Derived.Test.YtoccgkgdhobmfaaDoorWo
import Derived.Test.YtoccgkgdhobmfaaDoorWh
import Derived.Test.YtoccgkgdhobmfaaDoorCards
import Derived.Test.YtoccgkgdhobmfaaDoorTie
import Derived.WalkKit
import Derived.Deep.DeepHandedRow
import Derived.Lib.LaidTab
import Derived.Stop.LaidErr
set_option maxRecDepth 100000
set_option linter.unusedVariables false
set_option linter.unusedSimpArgs false
namespace Go.Proofs.YtoccgkgdhobmfaaDoor.Am.Ru
open Go Go.ChangeShapes Go.WideShapes Go.ChangeAt Go.RowKit

def EN : Nat → Option (CallFn → List V → Hp → Nat → Option Out) := fun _ => none
def GA : Nat → Option (List V) := fun g => if g = 1 then some (KL.map n32) else none
def GB : Nat → Option (List V) := fun g => if g = 0 then some (KL.map n32) else if g = 1 then some (KL.map n32) else none
theorem eokA : EOK GA EN := ⟨fun f x h => (nomatch h), fun _ _ => rfl, rfl⟩
theorem eokB : EOK GB EN := ⟨fun f x h => (nomatch h), fun _ _ => rfl, rfl⟩
theorem mixed : Tryd.prog.follows .mixedOrders = true := by kernel_rfl
theorem callOk (G : Nat → Option (List V)) : CallOk Tryd.prog G (cfW G T EN) := cfW_sound (fun f x h => (nomatch h)) mixed T_ok (fun f x h => (nomatch h))

theorem own : ownKnob Tryd.prog.godebug = none := by kernel_rfl
theorem kids : Kids Tryd.prog (· < Tryd.prog.types.size) := kids_rows (by kernel_rfl) (by kernel_rfl)
theorem full : ∀ t e, t < Tryd.prog.types.size → Tryd.prog.underlying t = some (.slice e) → 0 < Tryd.prog.cellsOf e := slices_full_of Tryd.prog (by kernel_rfl)
theorem g0n : Tryd.prog.globalNamed "splicery/spliceryref02.constants" = some 0 := by kernel_rfl
theorem g1n : Tryd.prog.globalNamed "splicery/hash.constants" = some 1 := by kernel_rfl
theorem cells5 : Tryd.prog.cellsOf 5 = 1 := by kernel_rfl
theorem cells48 : Tryd.prog.cellsOf 48 = 2 := by kernel_rfl
theorem cells9 : Tryd.prog.cellsOf 9 = 1 := by kernel_rfl
theorem g0t : (Tryd.prog.globals[0]?).map (·.type) = some 95 := by kernel_rfl
theorem g1t : (Tryd.prog.globals[1]?).map (·.type) = some 95 := by kernel_rfl
theorem cells29 : Tryd.prog.cellsOf 29 = 1 := by kernel_rfl
theorem cells95 : Tryd.prog.cellsOf 95 = 64 := by kernel_rfl
def KZ : List Int := KL.map Int.ofNat
theorem KZ_len : KZ.length = 64 := rfl
theorem laid1 : (Rows.laid_splicery_hash_constants : DataW Unit) = Lib.tabData .u32 KZ := by kernel_rfl
theorem laid0 : (Rows.laid_splicery_spliceryref02_constants : DataW Unit) = Lib.tabData .u32 KZ := by kernel_rfl

theorem gok_of {W : World} {g : Nat} (h : ∀ i, i < 64 → W.cell? ⟨g, i, none⟩ = some (.int .u32 (KZ.getD i 0))) : PRel (WM W) (.imp (KL.map n32) 0) (.pointer (some ⟨g, 0, none⟩)) := by
  have key : ∀ (j : Nat) (v : V), (KL.map n32)[j]? = some v → j < 64 ∧ v = .int .u32 (KZ.getD j 0) := by
    intro j v hj
    rw [List.getElem?_map, Option.map_eq_some_iff] at hj
    obtain ⟨n, hn, rfl⟩ := hj
    have hlt : j < 64 := by have := (List.getElem?_eq_some_iff.1 hn).1; rw [KL_len] at this; exact this
    refine ⟨hlt, ?_⟩
    unfold KZ
    rw [List.getD_eq_getElem?_getD, List.getElem?_map, hn]
    rfl
  have := PRel.imp (M := WM W) (KL.map n32) 0 g 0 (fun j => .int .u32 (KZ.getD j 0)) (fun j v hj => by rw [Nat.zero_add]; exact cellAt_cell (h j (key j v hj).1)) (fun j v hj => rfl)
    (fun j v hj => by rw [(key j v hj).2]; exact PRel.int _ _)
  simpa using this

theorem laidA {W : World} (h : laidMetH Tryd.prog [("splicery/hash.constants", Rows.laid_splicery_hash_constants)] W) : GOK (WM W) GA := by
  have h' : laidMet Tryd.prog [("splicery/hash.constants", Lib.tabData .u32 KZ)] W := by rw [← laid1]; exact h
  have ht := Lib.tabIs_of_head (rest := []) g1n g1t Tryd.underlying95 Tryd.underlying29 cells29 cells95 h'
  intro g cs hg
  unfold GA at hg
  split at hg
  · rename_i he
    subst he
    obtain rfl := Option.some.inj hg
    exact gok_of fun i hi => ht.cell g1n i (by rw [KZ_len]; exact hi)
  · cases hg

theorem laidB {W : World} (h : laidMetH Tryd.prog [("splicery/spliceryref02.constants", Rows.laid_splicery_spliceryref02_constants), ("splicery/hash.constants", Rows.laid_splicery_hash_constants)] W) : GOK (WM W) GB := by
  have h' : laidMet Tryd.prog [("splicery/spliceryref02.constants", Lib.tabData .u32 KZ), ("splicery/hash.constants", Lib.tabData .u32 KZ)] W := by
    have e := h
    rw [laid0, laid1] at e
    exact e
  have h0 := Lib.tabIs_of_head g0n g0t Tryd.underlying95 Tryd.underlying29 cells29 cells95 h'
  have h1 := Lib.tabIs_of_head (rest := []) g1n g1t Tryd.underlying95 Tryd.underlying29 cells29 cells95 (laidMet.tail h')
  intro g cs hg
  unfold GB at hg
  split at hg
  · rename_i he
    subst he
    obtain rfl := Option.some.inj hg
    exact gok_of fun i hi => h0.cell g0n i (by rw [KZ_len]; exact hi)
  · split at hg
    · rename_i he
      subst he
      obtain rfl := Option.some.inj hg
      exact gok_of fun i hi => h1.cell g1n i (by rw [KZ_len]; exact hi)
    · cases hg

/-- A world for the witnesses: the settled one, both tables laid. -/
noncomputable def laidWorld (os : Os) : World :=
  let f : Obj → Obj := fun
      | .cells _ t frozen => .cells (KZ.map fun z => Value.int .u32 z).toArray t frozen
      | o => o
  { World.holding Tryd.prog os ⟨#[], #[], []⟩ with heap := ((World.holding Tryd.prog os ⟨#[], #[], []⟩).heap.modify 0 f).modify 1 f }
end Go.Proofs.YtoccgkgdhobmfaaDoor.Am.Ru
