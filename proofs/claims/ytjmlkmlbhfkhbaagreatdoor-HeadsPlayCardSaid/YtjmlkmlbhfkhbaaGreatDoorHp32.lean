/-
  What every row of the seat wants: the door's heap, the frame as the form has it.
-/
import Derived.Test.YtjmlkmlbhfkhbaaGreatDoorHp31
import Derived.ProofKit
import Derived.LaidMore
import Derived.OpenShut
import Derived.Stop.Joined
set_option linter.unusedSimpArgs false
set_option linter.unusedVariables false
namespace Go.Proofs.YtjmlkmlbhfkhbaaGreatDoor
open Go Go.RowKit Go.ChangeShapes Go.WideShapes Go.WideElems

def col0 : Col := fun _ => (0, 0, 0)
theorem good0 (w : World) : Good w col0 := fun _ _ => rfl

theorem Mv.kept {w w' : World} {c' : Col} (hm : Mv Own w col0 w' c') (may : MemPlace → Prop) : w.keptBut w' may := by
  refine ⟨hm.os, hm.output, fun i hi => ?_⟩
  have hb := hm.blk i hi (fun h => h rfl)
  rw [hb]
  cases ho : w.heap[i]? with
  | none => rfl
  | some o => cases o <;> first | exact ⟨rfl, rfl, rfl, fun _ _ => rfl⟩ | exact .inr ⟨rfl, rfl⟩ | rfl
theorem Mv.same {w w' : World} {c' : Col} (hm : Mv Own w col0 w' c') {p : MemPlace} (hp : p.block < w.heap.size) : w.sameAt w' p := by
  have hb := hm.blk p.block hp (fun h => h rfl)
  cases p with
  | cell b off => exact World.cell?_of_block (w := w) hb
  | map b => exact hb

theorem own : ownKnob Tryz.prog.godebug = none := by kernel_rfl
theorem laidOut : laidOutB Tryz.prog = true := by kernel_rfl
end Go.Proofs.YtjmlkmlbhfkhbaaGreatDoor
