/-
  The tied card of BuilderNone.
-/
import Derived.Test.YtjmlkmlbhfkhbaaGreatDoorRow1
import Derived.Test.YtjmlkmlbhfkhbaaGreatDoorTie
import Derived.Test.YtjmlkmlbhfkhbaaGreatDoorCards
import Derived.SevenTiedAt
namespace Go.Proofs.YtjmlkmlbhfkhbaaGreatDoor
open Go

theorem builderNone_card_holds : Rows.BuilderNoneCardSaid :=
  Claim7.holds_tied_plain_at .later [] [.handle, .data, .mapped] true (true, "b0415b1aefc8141c90091a86beaecdcabc148f68134e0b26f86bb34a0855864a") true
    builderNone_holds (fun _ h => by cases h) (by kernel_rfl) (fun _ h => by cases h) builderNone_row_tie rfl ⟨rfl, rfl⟩ (by kernel_rfl) rfl
    (fun f fn hf hfn => by
      obtain rfl : f = 3 := Option.some.inj ((show Tryz.prog.funcNamed "lazaret/lazaretlaw17.BuilderNone" = some 3 by kernel_rfl).symm.trans hf) |>.symm
      obtain rfl : fn = Tryz.f3 := (Option.some.inj (Tryz.func3.symm.trans hfn)).symm
      exact ⟨by kernel_rfl, fun j t ht => by
        rw [Tryz.params3] at ht
        have h3 : t = 24 ∨ t = 3 := by
          rcases j with _ | _ | j
          · left; simpa using ht.symm
          · right; simpa using ht.symm
          · simp at ht
        rcases h3 with rfl | rfl
        · exact (show Tryz.prog.wantsStandIn 24 = false by kernel_rfl)
        · exact (show Tryz.prog.wantsStandIn 3 = false by kernel_rfl)⟩)
    (by kernel_rfl)
#print axioms builderNone_card_holds
end Go.Proofs.YtjmlkmlbhfkhbaaGreatDoor
