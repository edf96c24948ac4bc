/-
  The tied card of HeadsPlay: whatever tokens come, from a new builder on, as long as the mode is one of these, what is done, and whether it is to be done again, is the document's. Conditions: none beyond the statement's own.
-/
import Derived.Test.YtjmlkmlbhfkhbaaGreatDoorHp44
import Derived.Test.YtjmlkmlbhfkhbaaGreatDoorTie
import Derived.Test.YtjmlkmlbhfkhbaaGreatDoorCards
import Derived.SevenTiedAt
set_option linter.unusedSimpArgs false
set_option linter.unusedVariables false
namespace Go.Proofs.YtjmlkmlbhfkhbaaGreatDoor
open Go

theorem headsPlay_card_holds : Rows.HeadsPlayCardSaid :=
  Claim7.holds_tied_plain_at .later [] [.handle, .mapped, .funcs] true (true, "b0415b1aefc8141c90091a86beaecdcabc148f68134e0b26f86bb34a0855864a") true
    headsPlay_holds (fun _ h => by cases h) (by kernel_rfl) (fun _ h => by cases h) headsPlay_row_tie rfl ⟨rfl, rfl⟩ (by kernel_rfl) rfl
    (fun f fn hf hfn => by
      obtain rfl : f = 5 := Option.some.inj ((show Tryz.prog.funcNamed "lazaret/lazaretlaw19.HeadsPlay" = some 5 by kernel_rfl).symm.trans hf) |>.symm
      obtain rfl : fn = Tryz.f5 := (Option.some.inj (Tryz.func5.symm.trans hfn)).symm
      exact ⟨by kernel_rfl, fun j t ht => by
        rw [Tryz.params5] at ht
        have h3 : t = 66 := by
          rcases j with _ | j
          · simpa using ht.symm
          · simp at ht
        subst h3
        exact (show Tryz.prog.wantsStandIn 66 = false by kernel_rfl)⟩)
    (by kernel_rfl)
#print axioms headsPlay_card_holds
end Go.Proofs.YtjmlkmlbhfkhbaaGreatDoor
