/- The world of the witness, in which the listed tables lie as their text lays them. No condition. -/
import Derived.Test.YtmajmplhojlhbaaDoorRows
import Derived.Lib.LaidU8
import Derived.LaidMore
import Derived.Stop.Joined
namespace Go.Proofs.YtmajmplhojlhbaaDoor.DoorWorld
open Go.Shelf Go.Lib
def Tabs (_w : World) : Prop := True
def listed : List (String × DataW Unit) := [("unicode/utf8.acceptRanges", Rows.laid_unicode_utf8_acceptRanges), ("unicode/utf8.first", Rows.laid_unicode_utf8_first)]
noncomputable def laidWorld (os : Os) : World :=
  let w0 := World.holding Tryd.prog os ⟨#[], #[], []⟩
  let put (h : Array Obj) (g : Nat) (cs : Array Value) : Array Obj := h.modify g fun
    | .cells _ t frozen => .cells cs t frozen
    | o => o
  let h1 := put w0.heap 3 (Lib.firstTab.map fun z => Value.int .u8 z).toArray
  let h2 := put h1 4 ((List.range 16).flatMap fun i => [Value.int .u8 (Lib.accLo i), Value.int .u8 (Lib.accHi i)]).toArray
  { w0 with heap := h2 }
set_option maxRecDepth 100000 in
theorem door_met (os : Os) (args : Array Value) : laidMetH Tryd.prog listed ((laidWorld os).forCall (fun _ _ => 0) ⟨#[], args, []⟩).memory :=
  laidMetH_of_parts3 (fuel := 8) (laidMet_of_run' 8 (by kernel_rfl) (by kernel_rfl)) (by kernel_rfl) (by kernel_rfl)
theorem tabs_of {W : World} (_h : laidMetH Tryd.prog listed W) : Tabs W := trivial
end Go.Proofs.YtmajmplhojlhbaaDoor.DoorWorld
