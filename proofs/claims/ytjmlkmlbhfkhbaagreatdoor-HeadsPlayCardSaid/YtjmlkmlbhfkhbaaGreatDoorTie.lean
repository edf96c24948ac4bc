/-
  DERIVED. GIVEN WITH THE SEED: THE PROGRAM's TIES (one call each: nine closed facts by the kernel) AND EACH ROW's TIE, after the 31st guide's Derived/Test/Toyas{Tie, Card}.lean. No idea stands in it: it is a product of the set-up. Laid BY PROGRAM, IN A SANDBOX (cutbox-door.mjs). By AI agents, Wed Nov 11 2026. No macro, syntax, notation, axiom, sorry.
-/
import Derived.Test.YtjmlkmlbhfkhbaaGreatDoorRows
import Derived.LaidByTextLater
import Derived.SevenTiedAt
import Derived.LaidSub
import Derived.LaidOnce
namespace Go.Proofs.YtjmlkmlbhfkhbaaGreatDoor
open Go
set_option maxRecDepth 100000
theorem seatTie1 : Tryz.prog.laidByTextLater [("errors.errorType", Rows.laid_errors_errorType), ("lazaret/kinds.scopes", Rows.laid_lazaret_kinds_scopes), ("lazaret/builder.by", Rows.laid_lazaret_builder_by), ("lazaret/heads.steps", Rows.laid_lazaret_heads_steps)] [.handle, .data, .mapped, .funcs] true :=
  Program.laidByTextLater_by_one 121 8 5 (by kernel_rfl) (by kernel_rfl) (by kernel_rfl) (by kernel_rfl) (by kernel_rfl) (by kernel_rfl) (fun _ _ => by kernel_rfl)
theorem noOwnUnsafe : Tryz.pinned.checked.prog.headLifts.contains "ownunsafe" = false := by kernel_rfl
theorem tie : Tryz.prog.laidByTextLater [("errors.errorType", Rows.laid_errors_errorType), ("lazaret/kinds.scopes", Rows.laid_lazaret_kinds_scopes), ("lazaret/builder.by", Rows.laid_lazaret_builder_by)] [.handle, .data, .mapped] true :=
  Program.laidByTextLater.sub seatTie1 ["errors.errorType", "lazaret/kinds.scopes", "lazaret/builder.by"] (by kernel_rfl) (by kernel_rfl)
theorem builderNone_row_tie : Rows.builderNoneRow.laidByTextAt .later Tryz.pinned [.handle, .data, .mapped] true :=
  OpenClaim.laidByTextAt_later rfl rfl tie noOwnUnsafe
theorem tie2 : Tryz.prog.laidByTextLater [("errors.errorType", Rows.laid_errors_errorType), ("lazaret/builder.by", Rows.laid_lazaret_builder_by), ("lazaret/heads.steps", Rows.laid_lazaret_heads_steps)] [.handle, .mapped, .funcs] true :=
  Program.laidByTextLater.sub seatTie1 ["errors.errorType", "lazaret/builder.by", "lazaret/heads.steps"] (by kernel_rfl) (by kernel_rfl)
theorem headsBody_row_tie : Rows.headsBodyRow.laidByTextAt .later Tryz.pinned [.handle, .mapped, .funcs] true :=
  OpenClaim.laidByTextAt_later rfl rfl tie2 noOwnUnsafe
theorem headsPlay_row_tie : Rows.headsPlayRow.laidByTextAt .later Tryz.pinned [.handle, .mapped, .funcs] true :=
  OpenClaim.laidByTextAt_later rfl rfl tie2 noOwnUnsafe
theorem builderNoneUpto_row_tie : Rows.builderNoneUptoRow.laidByTextAt .later Tryz.pinned [.handle, .data, .mapped] true :=
  OpenClaim.laidByTextAt_later rfl rfl tie noOwnUnsafe
theorem headsBodyUpto_row_tie : Rows.headsBodyUptoRow.laidByTextAt .later Tryz.pinned [.handle, .mapped, .funcs] true :=
  OpenClaim.laidByTextAt_later rfl rfl tie2 noOwnUnsafe
theorem headsPlayUpto_row_tie : Rows.headsPlayUptoRow.laidByTextAt .later Tryz.pinned [.handle, .mapped, .funcs] true :=
  OpenClaim.laidByTextAt_later rfl rfl tie2 noOwnUnsafe
end Go.Proofs.YtjmlkmlbhfkhbaaGreatDoor
