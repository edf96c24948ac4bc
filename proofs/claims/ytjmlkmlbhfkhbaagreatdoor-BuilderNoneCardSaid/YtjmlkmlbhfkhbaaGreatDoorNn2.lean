/-
  Insert, Only, Imply, Current, Is of a builder that is none.
-/
import Derived.Test.YtjmlkmlbhfkhbaaGreatDoorNn
namespace Go.Proofs.YtjmlkmlbhfkhbaaGreatDoor
open Go Go.RowKit

section
variable {w : World} {v : Value}
set_option maxHeartbeats 400000 in
theorem nInsert (H : NB w v) (t : Tok) (m : Int) : Calls Tryz.prog 45 #[v, t.val, .int .i64 m] w fun e w' => e = .returned (.int .i64 (-1)) ∧ Below w.heap.size w w' := by
  have N := Lib.hid (nNone (H.loc (below_alloc (Below.refl _ _) (.cells t.cells.toArray 24))))
  unfold Tok.cells at N
  unfold Tok.val Tok.cells
  clear H
  go_enter Tryz.func45, Tryz.ntmps45
  go_wp2_with (go_at_call 63; refine N.out.mono ?_; rintro e w1 ⟨rfl, rfl⟩)
  go_ret
  exact ⟨rfl, below_alloc (Below.refl _ _) _⟩

set_option maxHeartbeats 400000 in
theorem nOnly (H : NB w v) (t : Tok) : Calls Tryz.prog 46 #[v, t.val] w fun e w' => e = .returned (.int .i64 (-1)) ∧ Below w.heap.size w w' := by
  have N := Lib.hid (nInsert (H.loc (below_alloc (Below.refl _ _) (.cells t.cells.toArray 24))) t 0)
  unfold Tok.val Tok.cells at N
  unfold Tok.val Tok.cells
  clear H
  go_enter Tryz.func46, Tryz.ntmps46
  go_wp2_with (go_at_call 45; refine N.out.mono ?_; rintro e w1 ⟨rfl, hb1⟩)
  go_ret
  exact ⟨rfl, below_step (below_alloc (Below.refl _ _) _) hb1⟩

set_option maxHeartbeats 400000 in
theorem nImply (H : NB w v) (name : Str) : Calls Tryz.prog 47 #[v, .string name] w fun e w' => e = .returned (.int .i64 (-1)) ∧ Below w.heap.size w w' := by
  have N := Lib.hid (nInsert H (impTok name) 0)
  clear H
  go_enter Tryz.func47, Tryz.ntmps47
  go_wp2_with fail
  refine N.out.mono ?_
  rintro e w1 ⟨rfl, hb1⟩
  go_wp2_with fail
  go_ret
  exact ⟨rfl, hb1⟩

def ndZ : Nd := { kind := 0, name := ⟨#[]⟩, text := ⟨#[]⟩, space := 0, attrs := [], dup := false, parent := 0, content := 0, kids := [], frm := 0, to_ := 0 }

set_option maxHeartbeats 1000000 in
theorem nCurrent (H : NB w v) : Calls Tryz.prog 42 #[v] w fun e w' => e = .returned (ndVal ndZ none 0 none 0) ∧ Below w.heap.size w w' := by
  have N := Lib.hid (nNone (H.loc (below_alloc (Below.refl _ _) (.cells zeroNode.toArray 58))))
  unfold zeroNode at N
  clear H
  go_enter Tryz.func42, Tryz.ntmps42
  go_wp2_with (go_at_call 63; refine N.out.mono ?_; rintro e w1 ⟨rfl, rfl⟩)
  refine bodyPost_ret (v := ndVal ndZ none 0 none 0) ?_ rfl ?_
  · have HBx := HB.new w 58 zeroNode
    have d := HBx.cell
    unfold zeroNode at d
    have d0 := d 0
    have d1 := d 1
    have d2 := d 2
    have d3 := d 3
    have d4 := d 4
    have d5 := d 5
    have d6 := d 6
    have d7 := d 7
    have d8 := d 8
    have d9 := d 9
    have d10 := d 10
    simp only [List.getElem?_cons_zero, List.getElem?_cons_succ] at d0 d1 d2 d3 d4 d5 d6 d7 d8 d9 d10
    simp [results, Tryz.results42, go_sem, ndVal, ndZ, d0, d1, d2, d3, d4, d5, d6, d7, d8, d9, d10]
  · exact ⟨rfl, below_alloc (Below.refl _ _) _⟩

set_option maxHeartbeats 1000000 in
theorem nIs (H : NB w v) {g : Nat} {s : Str} (hs : Strs w g [s]) : Calls Tryz.prog 43 #[v, .slice (some ⟨g, 0, none⟩) 1 1] w fun e w' => e = .returned (.bool false) ∧ Below w.heap.size w w' := by
  have N := Lib.hid (nCurrent H)
  have HS := Lib.hid hs
  clear H hs
  go_enter Tryz.func43, Tryz.ntmps43
  go_wp2_with fail
  refine N.out.mono ?_
  rintro e w1 ⟨rfl, hb1⟩
  have B := Lib.hid (bHtml w1 ndZ none 0 none 0 g 1 [s] (by simp) (HS.out.below hb1))
  go_wp2_with fail
  refine B.out.mono ?_
  rintro e w2 ⟨rfl, hb2⟩
  go_wp2_with fail
  go_ret
  exact ⟨rfl, below_step hb1 hb2⟩
end
end Go.Proofs.YtjmlkmlbhfkhbaaGreatDoor
