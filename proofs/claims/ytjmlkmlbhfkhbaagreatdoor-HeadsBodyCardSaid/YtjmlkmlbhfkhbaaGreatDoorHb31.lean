/-
  The tied card of HeadsBody: whatever tokens came ahead, at the text's end there are an html element, in it a head, and behind that a body, which is open, unless a template is. Conditions: none beyond the statement's own.
-/
import Derived.Test.YtjmlkmlbhfkhbaaGreatDoorHb30
import Derived.Test.YtjmlkmlbhfkhbaaGreatDoorTie
import Derived.Test.YtjmlkmlbhfkhbaaGreatDoorCards
import Derived.SevenTiedAt
set_option linter.unusedSimpArgs false
set_option linter.unusedVariables false
namespace Go.Proofs.YtjmlkmlbhfkhbaaGreatDoor
open Go

theorem headsBody_card_holds : Rows.HeadsBodyCardSaid :=
  Claim7.holds_tied_plain_at .later [] [.handle, .mapped, .funcs] true (true, "b0415b1aefc8141c90091a86beaecdcabc148f68134e0b26f86bb34a0855864a") true
    headsBody_holds (fun _ h => by cases h) (by kernel_rfl) (fun _ h => by cases h) headsBody_row_tie rfl ⟨rfl, rfl⟩ (by kernel_rfl) rfl
    (fun f fn hf hfn => by
      obtain rfl : f = 4 := Option.some.inj ((show Tryz.prog.funcNamed "lazaret/lazaretlaw19.HeadsBody" = some 4 by kernel_rfl).symm.trans hf) |>.symm
      obtain rfl : fn = Tryz.f4 := (Option.some.inj (Tryz.func4.symm.trans hfn)).symm
      exact ⟨by kernel_rfl, fun j t ht => by
        rw [Tryz.params4] at ht
        have h3 : t = 66 := by
          rcases j with _ | j
          · simpa using ht.symm
          · simp at ht
        subst h3
        exact (show Tryz.prog.wantsStandIn 66 = false by kernel_rfl)⟩)
    (by kernel_rfl)
#print axioms headsBody_card_holds
end Go.Proofs.YtjmlkmlbhfkhbaaGreatDoor
