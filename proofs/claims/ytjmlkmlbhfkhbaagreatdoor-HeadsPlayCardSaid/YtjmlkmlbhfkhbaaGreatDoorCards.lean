/-
  DERIVED. GIVEN WITH THE SEED: THE CARDS: each row of YtjmlkmlbhfkhbaaGreatDoorRows.lean that lists a variable, with what it lists TIED to the program's text (the seventh form; the later family's looks); each row that meets fmt, with fmt's text TOLD by the authors' own Lean function (tested against real Go, not proved from fmt's source: count such statements apart). THE CARD IS WHAT COUNTS. Prove the row's statement (the work); the ties are given (YtjmlkmlbhfkhbaaGreatDoorTie.lean); close each card by the builder's one call (the guide's Derived/Test/ToyasCard.lean, 'card_holds'). Laid BY PROGRAM, IN A SANDBOX (cutbox-door.mjs). By AI agents, Wed Nov 11 2026. No macro, syntax, notation, axiom, sorry.
-/
import Derived.Test.YtjmlkmlbhfkhbaaGreatDoorRows
import GoSem.ClaimSeven
namespace Go.Proofs.YtjmlkmlbhfkhbaaGreatDoor
namespace Rows

/-- THE TIED CARD OF 'lazaretlaw17.BuilderNone'. -/
def builderNoneCard : Claim7 := { stood := { row := builderNoneRow, standIns := [], harness := (true, "b0415b1aefc8141c90091a86beaecdcabc148f68134e0b26f86bb34a0855864a"), looks := true }, kinds := [], alts := [], laidByText := true, laidKinds := [.handle, .data, .mapped], laidTests := true, laidLooks := .later }
def BuilderNoneCardSaid : Prop := Claim7.holds Tryz.pinned (.plain (OpenSpec.ofChange builderNoneSpec)) builderNoneCard

/-- THE TIED CARD OF 'lazaretlaw19.HeadsBody'. -/
def headsBodyCard : Claim7 := { stood := { row := headsBodyRow, standIns := [], harness := (true, "b0415b1aefc8141c90091a86beaecdcabc148f68134e0b26f86bb34a0855864a"), looks := true }, kinds := [], alts := [], laidByText := true, laidKinds := [.handle, .mapped, .funcs], laidTests := true, laidLooks := .later }
def HeadsBodyCardSaid : Prop := Claim7.holds Tryz.pinned (.plain (OpenSpec.ofChange headsBodySpec)) headsBodyCard

/-- THE TIED CARD OF 'lazaretlaw19.HeadsPlay'. -/
def headsPlayCard : Claim7 := { stood := { row := headsPlayRow, standIns := [], harness := (true, "b0415b1aefc8141c90091a86beaecdcabc148f68134e0b26f86bb34a0855864a"), looks := true }, kinds := [], alts := [], laidByText := true, laidKinds := [.handle, .mapped, .funcs], laidTests := true, laidLooks := .later }
def HeadsPlayCardSaid : Prop := Claim7.holds Tryz.pinned (.plain (OpenSpec.ofChange headsPlaySpec)) headsPlayCard

/-- THE SECOND FORM's CARD OF 'lazaretlaw17.BuilderNone'. -/
def builderNoneUptoCard : Claim7 := { stood := { row := builderNoneUptoRow, standIns := [], harness := (true, "b0415b1aefc8141c90091a86beaecdcabc148f68134e0b26f86bb34a0855864a"), looks := true }, kinds := [], alts := [], laidByText := true, laidKinds := [.handle, .data, .mapped], laidTests := true, laidLooks := .later }
def BuilderNoneUptoCardSaid : Prop := Claim7.holds Tryz.pinned (.plain (OpenSpec.upto builderNoneSpec)) builderNoneUptoCard

/-- THE SECOND FORM's CARD OF 'lazaretlaw19.HeadsBody'. -/
def headsBodyUptoCard : Claim7 := { stood := { row := headsBodyUptoRow, standIns := [], harness := (true, "b0415b1aefc8141c90091a86beaecdcabc148f68134e0b26f86bb34a0855864a"), looks := true }, kinds := [], alts := [], laidByText := true, laidKinds := [.handle, .mapped, .funcs], laidTests := true, laidLooks := .later }
def HeadsBodyUptoCardSaid : Prop := Claim7.holds Tryz.pinned (.plain (OpenSpec.upto headsBodySpec)) headsBodyUptoCard

/-- THE SECOND FORM's CARD OF 'lazaretlaw19.HeadsPlay'. -/
def headsPlayUptoCard : Claim7 := { stood := { row := headsPlayUptoRow, standIns := [], harness := (true, "b0415b1aefc8141c90091a86beaecdcabc148f68134e0b26f86bb34a0855864a"), looks := true }, kinds := [], alts := [], laidByText := true, laidKinds := [.handle, .mapped, .funcs], laidTests := true, laidLooks := .later }
def HeadsPlayUptoCardSaid : Prop := Claim7.holds Tryz.pinned (.plain (OpenSpec.upto headsPlaySpec)) headsPlayUptoCard
end Rows
end Go.Proofs.YtjmlkmlbhfkhbaaGreatDoor
