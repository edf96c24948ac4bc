/-
  Belongs, of the program's.
-/
import Derived.Test.YtjmlkmlbhfkhbaaGreatDoorToks
namespace Go.Proofs.YtjmlkmlbhfkhbaaGreatDoor
open Go Go.RowKit

abbrev nBase : Str := ⟨#[98, 97, 115, 101]⟩
abbrev nBasefont : Str := ⟨#[98, 97, 115, 101, 102, 111, 110, 116]⟩
abbrev nBgsound : Str := ⟨#[98, 103, 115, 111, 117, 110, 100]⟩
abbrev nLink : Str := ⟨#[108, 105, 110, 107]⟩
abbrev nMeta : Str := ⟨#[109, 101, 116, 97]⟩
abbrev nNoframes : Str := ⟨#[110, 111, 102, 114, 97, 109, 101, 115]⟩
abbrev nScript : Str := ⟨#[115, 99, 114, 105, 112, 116]⟩
abbrev nStyle : Str := ⟨#[115, 116, 121, 108, 101]⟩
abbrev nTemplate : Str := ⟨#[116, 101, 109, 112, 108, 97, 116, 101]⟩
abbrev nTitle : Str := ⟨#[116, 105, 116, 108, 101]⟩
abbrev belNames : List Str := [nBase, nBasefont, nBgsound, nLink, nMeta, nNoframes, nScript, nStyle, nTemplate, nTitle]

def belB (t : Tok) : Bool := startB t belNames || endB t [nTemplate]

set_option maxHeartbeats 400000 in
theorem hBelongs (w : World) (t : Tok) :
    Calls Tryz.prog 58 #[t.val] w fun e w' => e = .returned (.bool (belB t)) ∧ Below w.heap.size w w' := by
  cases hS : startB t belNames
  · have HS := Lib.hid hS
    clear hS
    unfold Tok.val Tok.cells
    go_enter Tryz.func58, Tryz.ntmps58
    go_wp2_with fail
    refine Calls.mono (hStart _ t _ 10 belNames (by decide) (by exact Strs.mk_ _ (by simp))) ?_
    rintro e w1 ⟨rfl, hb1⟩
    obtain ⟨b0, b1, b2, b3, b4, b5, b6, b7, b8⟩ := HB.tok (((HB.new w 24 t.cells).alloc _).below hb1)
    rw [HS.out]
    go_wp2_with fail
    refine Calls.mono (hEnd _ t _ 1 [nTemplate] (by decide) (by exact Strs.mk_ _ (by simp))) ?_
    rintro e w2 ⟨rfl, hb2⟩
    go_wp2_with fail
    go_ret
    refine ⟨ret_bool (by simp [belB, HS.out]), ?_⟩
    exact below_step (below_alloc (below_step (below_alloc (below_alloc (Below.refl _ _) _) _) hb1) _) hb2
  · have HS := Lib.hid hS
    clear hS
    unfold Tok.val Tok.cells
    go_enter Tryz.func58, Tryz.ntmps58
    go_wp2_with fail
    refine Calls.mono (hStart _ t _ 10 belNames (by decide) (by exact Strs.mk_ _ (by simp))) ?_
    rintro e w1 ⟨rfl, hb1⟩
    rw [HS.out]
    go_wp2_with fail
    go_ret
    refine ⟨ret_bool (by simp [belB, HS.out]), ?_⟩
    exact below_step (below_alloc (below_alloc (Below.refl _ _) _) _) hb1

end Go.Proofs.YtjmlkmlbhfkhbaaGreatDoor
