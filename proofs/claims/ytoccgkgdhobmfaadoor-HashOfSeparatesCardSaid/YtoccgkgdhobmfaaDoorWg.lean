/- The abstract machine and the contracts of the program, part Wg. -/
import Derived.Test.YtoccgkgdhobmfaaDoorWf
import Derived.KernelRfl
set_option maxRecDepth 100000
namespace Go.Proofs.YtoccgkgdhobmfaaDoor.Am
open Go
/-- Every function of the table is the program's. -/
noncomputable def tblOk : Bool := (List.range tbl.length).all fun f => match T f with
  | some m => chkF Go.Proofs.Tryd.prog f m
  | none => true
theorem tbl_ok : tblOk = true := by kernel_rfl
theorem T_ok : ∀ f m, T f = some m → chkF Go.Proofs.Tryd.prog f m = true := by
  intro f m h
  have hf : f < tbl.length := by
    rcases Nat.lt_or_ge f tbl.length with h' | h'
    · exact h'
    · unfold T at h; rw [List.getElem?_eq_none h'] at h; cases h
  have := List.all_eq_true.1 tbl_ok f (List.mem_range.2 hf)
  rw [h] at this
  exact this
end Go.Proofs.YtoccgkgdhobmfaaDoor.Am
