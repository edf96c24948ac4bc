/-
  Same's region 7: its first 112 operations come ahead of all others.
-/
import Derived.Test.YtjmlkmlbhfkhbaaGreatDoorHp36
import Derived.Test.YtjmlkmlbhfkhbaaGreatDoorHp00
import Derived.Test.YtjmlkmlbhfkhbaaGreatDoorProg
set_option linter.unusedSimpArgs false
set_option linter.unusedVariables false
namespace Go.Proofs.YtjmlkmlbhfkhbaaGreatDoor
open Go Go.RowKit

def regionOps (n : Nat) : Code → Option (Array Oper)
  | .region i ops _ => if i = n then some ops else none
  | .seq a b => match regionOps n a with
    | some o => some o
    | none => regionOps n b
  | _ => none
theorem pre7 : preB .any ((Tryz.f57.body.bind (regionOps 7)).getD #[]) 111 34 = true := by kernel_rfl
theorem pre7_of {l : List Oper} (h : (Tryz.f57.body.bind (regionOps 7)).getD #[] = l.toArray) : preB .any l.toArray 111 34 = true := by rw [← h]; exact pre7
end Go.Proofs.YtjmlkmlbhfkhbaaGreatDoor
