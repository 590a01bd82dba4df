/- The world of the witness of OfHex: the heap that the door's own run leaves. No condition. -/
import Derived.Test.YtmajmplhojlhbaaDoorRows
import Derived.LaidMore
import Derived.Stop.Joined
import Derived.Stop.LaidErr
namespace Go.Proofs.YtmajmplhojlhbaaDoor.DoorWorldOfHex
def listed : List (String × DataW Unit) := [("math/bits.deBruijn32tab", Rows.laid_math_bits_deBruijn32tab), ("math/bits.deBruijn64tab", Rows.laid_math_bits_deBruijn64tab), ("internal/strconv.uint64pow10", Rows.laid_internal_strconv_uint64pow10), ("strconv.ErrRange", Rows.laid_strconv_ErrRange), ("strconv.ErrSyntax", Rows.laid_strconv_ErrSyntax)]
noncomputable def laidWorld (os : Os) : World := World.doorLaid Tryd.prog 72 os
set_option maxRecDepth 100000 in
theorem door_met (os : Os) (args : Array Value) : laidMetH Tryd.prog listed ((laidWorld os).forCall (fun _ _ => 0) ⟨#[], args, []⟩).memory :=
  laidMetH_of_parts3 (fuel := 8) (laidMet_of_run' 8 (by kernel_rfl) (by kernel_rfl)) (by kernel_rfl) (by kernel_rfl)
theorem star : "*" ++ "errors.errorString" = "*errors.errorString" := by decide
theorem row92 (u : TypeId) (h : Tryd.prog.typeName? 3 u = some "*errors.errorString") : u = 92 :=
  typeName_ptr_named (nm := "errors.errorString") (by rw [star]; kernel_rfl) (by kernel_rfl) (by decide) u (by rw [star]; exact h)
/-- the variable strconv.ErrSyntax holds a value of an interface -/
theorem syntax_cell {W : World} (h : laidMetH Tryd.prog listed W) : ∃ ev, W.cell? ⟨1, 0, none⟩ = some ev ∧ (ev = .nilIface ∨ ∃ te pe, ev = .iface te pe) := by
  have h0 : laidMet Tryd.prog listed W := h
  obtain ⟨a, s, hv, _, _, _⟩ := laid_sentinel h0.tail.tail.tail.tail (g := 1) (ti := 39) (by kernel_rfl) (by kernel_rfl) Tryd.underlying39 row92 Tryd.underlying92 Tryd.underlying94 rfl rfl Tryd.underlying9 (by kernel_rfl) (by kernel_rfl)
  have hc := World.var?_cell (show Tryd.prog.globalNamed "strconv.ErrSyntax" = some 1 by kernel_rfl) hv 0
  exact ⟨_, by simpa using hc, Or.inr ⟨_, _, rfl⟩⟩
end Go.Proofs.YtmajmplhojlhbaaDoor.DoorWorldOfHex
