/-
  Every method of a builder that is none. Printed by gen/none.py.
  Insert, Only, Imply, Current, Is of a builder that is none.
-/
import Derived.Test.YtjmlkmlbhfkhbaaGreatDoorHb14
set_option linter.unusedSimpArgs false
set_option linter.unusedVariables false
namespace Go.Proofs.YtjmlkmlbhfkhbaaGreatDoor
open Go Go.RowKit

/-- A builder that is none: nil, or of no arena. -/
def NB (w : World) (v : Value) : Prop := v = .pointer none ∨ ∃ g, v = .pointer (some ⟨g, 0, none⟩) ∧ w.cell? ⟨g, 0, none⟩ = some (.pointer none)
theorem NB.loc {w w' : World} {v : Value} (h : NB w v) (hb : Below w.heap.size w w') : NB w' v := by
  rcases h with rfl | ⟨g, rfl, hc⟩
  · exact .inl rfl
  · exact .inr ⟨g, rfl, by rw [hb.cell (block_lt_of_cell hc)]; exact hc⟩

section
variable {w : World} {v : Value}
theorem nNone (H : NB w v) : Calls Tryz.prog 63 #[v] w fun e w' => e = .returned (.bool true) ∧ w = w' := by
  rcases H with rfl | ⟨g, rfl, hc⟩
  · go_enter Tryz.func63, Tryz.ntmps63
    go_wp2_with fail
    go_ret
    exact ⟨rfl, rfl⟩
  · go_enter Tryz.func63, Tryz.ntmps63
    go_wp2_with fail
    go_ret
    exact ⟨rfl, rfl⟩


set_option maxHeartbeats 400000 in
theorem nSet (H : NB w v) (m : Int) : Calls Tryz.prog 8 #[v, .int .i64 m] w fun e w' => e = .returned (.tuple #[]) ∧ w = w' := by
  have N := Lib.hid (nNone H)
  clear H
  go_enter Tryz.func8, Tryz.ntmps8
  go_wp2_with (go_at_call 63; refine N.out.mono ?_; rintro e w1 ⟨rfl, rfl⟩)
  first
    | go_end0
    | refine bodyPost_ret (results_none rfl _ _ _) rfl ?_
  exact ⟨rfl, rfl⟩

set_option maxHeartbeats 400000 in
theorem nKeep (H : NB w v)  : Calls Tryz.prog 9 #[v] w fun e w' => e = .returned (.tuple #[]) ∧ w = w' := by
  have N := Lib.hid (nNone H)
  clear H
  go_enter Tryz.func9, Tryz.ntmps9
  go_wp2_with (go_at_call 63; refine N.out.mono ?_; rintro e w1 ⟨rfl, rfl⟩)
  first
    | go_end0
    | refine bodyPost_ret (results_none rfl _ _ _) rfl ?_
  exact ⟨rfl, rfl⟩

set_option maxHeartbeats 400000 in
theorem nPush (H : NB w v) (m : Int) : Calls Tryz.prog 10 #[v, .int .i64 m] w fun e w' => e = .returned (.tuple #[]) ∧ w = w' := by
  have N := Lib.hid (nNone H)
  clear H
  go_enter Tryz.func10, Tryz.ntmps10
  go_wp2_with (go_at_call 63; refine N.out.mono ?_; rintro e w1 ⟨rfl, rfl⟩)
  first
    | go_end0
    | refine bodyPost_ret (results_none rfl _ _ _) rfl ?_
  exact ⟨rfl, rfl⟩

set_option maxHeartbeats 400000 in
theorem nPop (H : NB w v)  : Calls Tryz.prog 11 #[v] w fun e w' => e = .returned (.tuple #[]) ∧ w = w' := by
  have N := Lib.hid (nNone H)
  clear H
  go_enter Tryz.func11, Tryz.ntmps11
  go_wp2_with (go_at_call 63; refine N.out.mono ?_; rintro e w1 ⟨rfl, rfl⟩)
  first
    | go_end0
    | refine bodyPost_ret (results_none rfl _ _ _) rfl ?_
  exact ⟨rfl, rfl⟩

set_option maxHeartbeats 400000 in
theorem nSetHead (H : NB w v) (m : Int) : Calls Tryz.prog 12 #[v, .int .i64 m] w fun e w' => e = .returned (.tuple #[]) ∧ w = w' := by
  have N := Lib.hid (nNone H)
  clear H
  go_enter Tryz.func12, Tryz.ntmps12
  go_wp2_with (go_at_call 63; refine N.out.mono ?_; rintro e w1 ⟨rfl, rfl⟩)
  first
    | go_end0
    | refine bodyPost_ret (results_none rfl _ _ _) rfl ?_
  exact ⟨rfl, rfl⟩

set_option maxHeartbeats 400000 in
theorem nSetForm (H : NB w v) (m : Int) : Calls Tryz.prog 13 #[v, .int .i64 m] w fun e w' => e = .returned (.tuple #[]) ∧ w = w' := by
  have N := Lib.hid (nNone H)
  clear H
  go_enter Tryz.func13, Tryz.ntmps13
  go_wp2_with (go_at_call 63; refine N.out.mono ?_; rintro e w1 ⟨rfl, rfl⟩)
  first
    | go_end0
    | refine bodyPost_ret (results_none rfl _ _ _) rfl ?_
  exact ⟨rfl, rfl⟩

set_option maxHeartbeats 400000 in
theorem nSetQuirks (H : NB w v) (m : Bool) : Calls Tryz.prog 14 #[v, .bool m] w fun e w' => e = .returned (.tuple #[]) ∧ w = w' := by
  have N := Lib.hid (nNone H)
  clear H
  go_enter Tryz.func14, Tryz.ntmps14
  go_wp2_with (go_at_call 63; refine N.out.mono ?_; rintro e w1 ⟨rfl, rfl⟩)
  first
    | go_end0
    | refine bodyPost_ret (results_none rfl _ _ _) rfl ?_
  exact ⟨rfl, rfl⟩

set_option maxHeartbeats 400000 in
theorem nFoster (H : NB w v) (m : Bool) : Calls Tryz.prog 15 #[v, .bool m] w fun e w' => e = .returned (.tuple #[]) ∧ w = w' := by
  have N := Lib.hid (nNone H)
  clear H
  go_enter Tryz.func15, Tryz.ntmps15
  go_wp2_with (go_at_call 63; refine N.out.mono ?_; rintro e w1 ⟨rfl, rfl⟩)
  first
    | go_end0
    | refine bodyPost_ret (results_none rfl _ _ _) rfl ?_
  exact ⟨rfl, rfl⟩

set_option maxHeartbeats 400000 in
theorem nSetPending (H : NB w v) (m : Str) : Calls Tryz.prog 16 #[v, .string m] w fun e w' => e = .returned (.tuple #[]) ∧ w = w' := by
  have N := Lib.hid (nNone H)
  clear H
  go_enter Tryz.func16, Tryz.ntmps16
  go_wp2_with (go_at_call 63; refine N.out.mono ?_; rintro e w1 ⟨rfl, rfl⟩)
  first
    | go_end0
    | refine bodyPost_ret (results_none rfl _ _ _) rfl ?_
  exact ⟨rfl, rfl⟩

set_option maxHeartbeats 400000 in
theorem nSkip (H : NB w v)  : Calls Tryz.prog 17 #[v] w fun e w' => e = .returned (.tuple #[]) ∧ w = w' := by
  have N := Lib.hid (nNone H)
  clear H
  go_enter Tryz.func17, Tryz.ntmps17
  go_wp2_with (go_at_call 63; refine N.out.mono ?_; rintro e w1 ⟨rfl, rfl⟩)
  first
    | go_end0
    | refine bodyPost_ret (results_none rfl _ _ _) rfl ?_
  exact ⟨rfl, rfl⟩

set_option maxHeartbeats 400000 in
theorem nFail (H : NB w v) (m : Int) : Calls Tryz.prog 18 #[v, .int .i64 m] w fun e w' => e = .returned (.tuple #[]) ∧ w = w' := by
  have N := Lib.hid (nNone H)
  clear H
  go_enter Tryz.func18, Tryz.ntmps18
  go_wp2_with (go_at_call 63; refine N.out.mono ?_; rintro e w1 ⟨rfl, rfl⟩)
  first
    | go_end0
    | refine bodyPost_ret (results_none rfl _ _ _) rfl ?_
  exact ⟨rfl, rfl⟩

set_option maxHeartbeats 400000 in
theorem nPut (H : NB w v) (m k : Int) : Calls Tryz.prog 19 #[v, .int .i64 m, .int .i64 k] w fun e w' => e = .returned (.tuple #[]) ∧ w = w' := by
  have N := Lib.hid (nNone H)
  clear H
  go_enter Tryz.func19, Tryz.ntmps19
  go_wp2_with (go_at_call 63; refine N.out.mono ?_; rintro e w1 ⟨rfl, rfl⟩)
  first
    | go_end0
    | refine bodyPost_ret (results_none rfl _ _ _) rfl ?_
  exact ⟨rfl, rfl⟩

set_option maxHeartbeats 400000 in
theorem nChars (H : NB w v) (m : Str) : Calls Tryz.prog 20 #[v, .string m] w fun e w' => e = .returned (.tuple #[]) ∧ w = w' := by
  have N := Lib.hid (nNone H)
  clear H
  go_enter Tryz.func20, Tryz.ntmps20
  go_wp2_with (go_at_call 63; refine N.out.mono ?_; rintro e w1 ⟨rfl, rfl⟩)
  first
    | go_end0
    | refine bodyPost_ret (results_none rfl _ _ _) rfl ?_
  exact ⟨rfl, rfl⟩

set_option maxHeartbeats 400000 in
theorem nComment (H : NB w v) (t : Tok) (m : Int) : Calls Tryz.prog 21 #[v, t.val, .int .i64 m] w fun e w' => e = .returned (.tuple #[]) ∧ Below w.heap.size w w' := by
  have N := Lib.hid (nNone (H.loc (below_alloc (Below.refl _ _) (.cells t.cells.toArray 24))))
  unfold Tok.cells at N
  unfold Tok.val Tok.cells
  clear H
  go_enter Tryz.func21, Tryz.ntmps21
  go_wp2_with (go_at_call 63; refine N.out.mono ?_; rintro e w1 ⟨rfl, rfl⟩)
  first
    | go_end0
    | refine bodyPost_ret (results_none rfl _ _ _) rfl ?_
  exact ⟨rfl, below_alloc (Below.refl _ _) _⟩

set_option maxHeartbeats 400000 in
theorem nRaw (H : NB w v) (t : Tok) (m : Int) : Calls Tryz.prog 22 #[v, t.val, .int .i64 m] w fun e w' => e = .returned (.tuple #[]) ∧ Below w.heap.size w w' := by
  have N := Lib.hid (nNone (H.loc (below_alloc (Below.refl _ _) (.cells t.cells.toArray 24))))
  unfold Tok.cells at N
  unfold Tok.val Tok.cells
  clear H
  go_enter Tryz.func22, Tryz.ntmps22
  go_wp2_with (go_at_call 63; refine N.out.mono ?_; rintro e w1 ⟨rfl, rfl⟩)
  first
    | go_end0
    | refine bodyPost_ret (results_none rfl _ _ _) rfl ?_
  exact ⟨rfl, below_alloc (Below.refl _ _) _⟩

set_option maxHeartbeats 400000 in
theorem nPlain (H : NB w v)  : Calls Tryz.prog 23 #[v] w fun e w' => e = .returned (.tuple #[]) ∧ w = w' := by
  have N := Lib.hid (nNone H)
  clear H
  go_enter Tryz.func23, Tryz.ntmps23
  go_wp2_with (go_at_call 63; refine N.out.mono ?_; rintro e w1 ⟨rfl, rfl⟩)
  first
    | go_end0
    | refine bodyPost_ret (results_none rfl _ _ _) rfl ?_
  exact ⟨rfl, rfl⟩

set_option maxHeartbeats 400000 in
theorem nRebuild (H : NB w v)  : Calls Tryz.prog 24 #[v] w fun e w' => e = .returned (.tuple #[]) ∧ w = w' := by
  have N := Lib.hid (nNone H)
  clear H
  go_enter Tryz.func24, Tryz.ntmps24
  go_wp2_with (go_at_call 63; refine N.out.mono ?_; rintro e w1 ⟨rfl, rfl⟩)
  first
    | go_end0
    | refine bodyPost_ret (results_none rfl _ _ _) rfl ?_
  exact ⟨rfl, rfl⟩

set_option maxHeartbeats 400000 in
theorem nCloseP (H : NB w v)  : Calls Tryz.prog 25 #[v] w fun e w' => e = .returned (.tuple #[]) ∧ w = w' := by
  have N := Lib.hid (nNone H)
  clear H
  go_enter Tryz.func25, Tryz.ntmps25
  go_wp2_with (go_at_call 63; refine N.out.mono ?_; rintro e w1 ⟨rfl, rfl⟩)
  first
    | go_end0
    | refine bodyPost_ret (results_none rfl _ _ _) rfl ?_
  exact ⟨rfl, rfl⟩

set_option maxHeartbeats 400000 in
theorem nReset (H : NB w v)  : Calls Tryz.prog 26 #[v] w fun e w' => e = .returned (.tuple #[]) ∧ w = w' := by
  have N := Lib.hid (nNone H)
  clear H
  go_enter Tryz.func26, Tryz.ntmps26
  go_wp2_with (go_at_call 63; refine N.out.mono ?_; rintro e w1 ⟨rfl, rfl⟩)
  first
    | go_end0
    | refine bodyPost_ret (results_none rfl _ _ _) rfl ?_
  exact ⟨rfl, rfl⟩

set_option maxHeartbeats 400000 in
theorem nHTML (H : NB w v) (t : Tok) : Calls Tryz.prog 27 #[v, t.val] w fun e w' => e = .returned (.tuple #[]) ∧ Below w.heap.size w w' := by
  have N := Lib.hid (nNone (H.loc (below_alloc (Below.refl _ _) (.cells t.cells.toArray 24))))
  unfold Tok.cells at N
  unfold Tok.val Tok.cells
  clear H
  go_enter Tryz.func27, Tryz.ntmps27
  go_wp2_with (go_at_call 63; refine N.out.mono ?_; rintro e w1 ⟨rfl, rfl⟩)
  first
    | go_end0
    | refine bodyPost_ret (results_none rfl _ _ _) rfl ?_
  exact ⟨rfl, below_alloc (Below.refl _ _) _⟩

set_option maxHeartbeats 400000 in
theorem nPlace (H : NB w v) (m : Int) : Calls Tryz.prog 28 #[v, .int .i64 m] w fun e w' => e = .returned (.tuple #[.int .i64 (-1), .int .i64 (-1)]) ∧ w = w' := by
  have N := Lib.hid (nNone H)
  clear H
  go_enter Tryz.func28, Tryz.ntmps28
  go_wp2_with (go_at_call 63; refine N.out.mono ?_; rintro e w1 ⟨rfl, rfl⟩)
  refine bodyPost_ret (results_tmp2 rfl _ _ _) rfl ?_
  exact ⟨rfl, rfl⟩

set_option maxHeartbeats 400000 in
theorem nAsk (H : NB w v)  : Calls Tryz.prog 29 #[v] w fun e w' => e = .returned (.tuple #[.int .i64 0, .string ⟨#[]⟩, .bool false]) ∧ w = w' := by
  have N := Lib.hid (nNone H)
  clear H
  go_enter Tryz.func29, Tryz.ntmps29
  go_wp2_with (go_at_call 63; refine N.out.mono ?_; rintro e w1 ⟨rfl, rfl⟩)
  refine bodyPost_ret (v := .tuple #[.int .i64 0, .string ⟨#[]⟩, .bool false]) (by simp [results, Tryz.results29, go_sem]) rfl ?_
  exact ⟨rfl, rfl⟩

set_option maxHeartbeats 400000 in
theorem nArena (H : NB w v)  : Calls Tryz.prog 30 #[v] w fun e w' => e = .returned (.pointer none) ∧ w = w' := by
  have N := Lib.hid (nNone H)
  clear H
  go_enter Tryz.func30, Tryz.ntmps30
  go_wp2_with (go_at_call 63; refine N.out.mono ?_; rintro e w1 ⟨rfl, rfl⟩)
  go_ret
  exact ⟨rfl, rfl⟩

set_option maxHeartbeats 400000 in
theorem nStack (H : NB w v)  : Calls Tryz.prog 31 #[v] w fun e w' => e = .returned (.pointer none) ∧ w = w' := by
  have N := Lib.hid (nNone H)
  clear H
  go_enter Tryz.func31, Tryz.ntmps31
  go_wp2_with (go_at_call 63; refine N.out.mono ?_; rintro e w1 ⟨rfl, rfl⟩)
  go_ret
  exact ⟨rfl, rfl⟩

set_option maxHeartbeats 400000 in
theorem nFormats (H : NB w v)  : Calls Tryz.prog 32 #[v] w fun e w' => e = .returned (.pointer none) ∧ w = w' := by
  have N := Lib.hid (nNone H)
  clear H
  go_enter Tryz.func32, Tryz.ntmps32
  go_wp2_with (go_at_call 63; refine N.out.mono ?_; rintro e w1 ⟨rfl, rfl⟩)
  go_ret
  exact ⟨rfl, rfl⟩

set_option maxHeartbeats 400000 in
theorem nMode (H : NB w v)  : Calls Tryz.prog 33 #[v] w fun e w' => e = .returned (.int .i64 0) ∧ w = w' := by
  have N := Lib.hid (nNone H)
  clear H
  go_enter Tryz.func33, Tryz.ntmps33
  go_wp2_with (go_at_call 63; refine N.out.mono ?_; rintro e w1 ⟨rfl, rfl⟩)
  go_ret
  exact ⟨rfl, rfl⟩

set_option maxHeartbeats 400000 in
theorem nBack (H : NB w v)  : Calls Tryz.prog 34 #[v] w fun e w' => e = .returned (.int .i64 0) ∧ w = w' := by
  have N := Lib.hid (nNone H)
  clear H
  go_enter Tryz.func34, Tryz.ntmps34
  go_wp2_with (go_at_call 63; refine N.out.mono ?_; rintro e w1 ⟨rfl, rfl⟩)
  go_ret
  exact ⟨rfl, rfl⟩

set_option maxHeartbeats 400000 in
theorem nModes (H : NB w v)  : Calls Tryz.prog 35 #[v] w fun e w' => e = .returned (.slice none 0 0) ∧ w = w' := by
  have N := Lib.hid (nNone H)
  clear H
  go_enter Tryz.func35, Tryz.ntmps35
  go_wp2_with (go_at_call 63; refine N.out.mono ?_; rintro e w1 ⟨rfl, rfl⟩)
  go_ret
  exact ⟨rfl, rfl⟩

set_option maxHeartbeats 400000 in
theorem nHead (H : NB w v)  : Calls Tryz.prog 36 #[v] w fun e w' => e = .returned (.int .i64 (-1)) ∧ w = w' := by
  have N := Lib.hid (nNone H)
  clear H
  go_enter Tryz.func36, Tryz.ntmps36
  go_wp2_with (go_at_call 63; refine N.out.mono ?_; rintro e w1 ⟨rfl, rfl⟩)
  go_ret
  exact ⟨rfl, rfl⟩

set_option maxHeartbeats 400000 in
theorem nForm (H : NB w v)  : Calls Tryz.prog 37 #[v] w fun e w' => e = .returned (.int .i64 (-1)) ∧ w = w' := by
  have N := Lib.hid (nNone H)
  clear H
  go_enter Tryz.func37, Tryz.ntmps37
  go_wp2_with (go_at_call 63; refine N.out.mono ?_; rintro e w1 ⟨rfl, rfl⟩)
  go_ret
  exact ⟨rfl, rfl⟩

set_option maxHeartbeats 400000 in
theorem nQuirks (H : NB w v)  : Calls Tryz.prog 38 #[v] w fun e w' => e = .returned (.bool false) ∧ w = w' := by
  have N := Lib.hid (nNone H)
  clear H
  go_enter Tryz.func38, Tryz.ntmps38
  go_wp2_with (go_at_call 63; refine N.out.mono ?_; rintro e w1 ⟨rfl, rfl⟩)
  go_ret
  exact ⟨rfl, rfl⟩

set_option maxHeartbeats 400000 in
theorem nPending (H : NB w v)  : Calls Tryz.prog 39 #[v] w fun e w' => e = .returned (.string ⟨#[]⟩) ∧ w = w' := by
  have N := Lib.hid (nNone H)
  clear H
  go_enter Tryz.func39, Tryz.ntmps39
  go_wp2_with (go_at_call 63; refine N.out.mono ?_; rintro e w1 ⟨rfl, rfl⟩)
  go_ret
  exact ⟨rfl, rfl⟩

set_option maxHeartbeats 400000 in
theorem nSkips (H : NB w v)  : Calls Tryz.prog 40 #[v] w fun e w' => e = .returned (.bool false) ∧ w = w' := by
  have N := Lib.hid (nNone H)
  clear H
  go_enter Tryz.func40, Tryz.ntmps40
  go_wp2_with (go_at_call 63; refine N.out.mono ?_; rintro e w1 ⟨rfl, rfl⟩)
  go_ret
  exact ⟨rfl, rfl⟩

set_option maxHeartbeats 400000 in
theorem nErr (H : NB w v)  : Calls Tryz.prog 41 #[v] w fun e w' => e = .returned (.int .i64 1) ∧ w = w' := by
  have N := Lib.hid (nNone H)
  clear H
  go_enter Tryz.func41, Tryz.ntmps41
  go_wp2_with (go_at_call 63; refine N.out.mono ?_; rintro e w1 ⟨rfl, rfl⟩)
  go_ret
  exact ⟨rfl, rfl⟩

set_option maxHeartbeats 400000 in
theorem nOpen (H : NB w v) (m : Str) : Calls Tryz.prog 44 #[v, .string m] w fun e w' => e = .returned (.bool false) ∧ w = w' := by
  have N := Lib.hid (nNone H)
  clear H
  go_enter Tryz.func44, Tryz.ntmps44
  go_wp2_with (go_at_call 63; refine N.out.mono ?_; rintro e w1 ⟨rfl, rfl⟩)
  go_ret
  exact ⟨rfl, rfl⟩

end
end Go.Proofs.YtjmlkmlbhfkhbaaGreatDoor
namespace Go.Proofs.YtjmlkmlbhfkhbaaGreatDoor
open Go Go.RowKit

section
variable {w : World} {v : Value}
set_option maxHeartbeats 400000 in
theorem nInsert (H : NB w v) (t : Tok) (m : Int) : Calls Tryz.prog 45 #[v, t.val, .int .i64 m] w fun e w' => e = .returned (.int .i64 (-1)) ∧ Below w.heap.size w w' := by
  have N := Lib.hid (nNone (H.loc (below_alloc (Below.refl _ _) (.cells t.cells.toArray 24))))
  unfold Tok.cells at N
  unfold Tok.val Tok.cells
  clear H
  go_enter Tryz.func45, Tryz.ntmps45
  go_wp2_with (go_at_call 63; refine N.out.mono ?_; rintro e w1 ⟨rfl, rfl⟩)
  go_ret
  exact ⟨rfl, below_alloc (Below.refl _ _) _⟩

set_option maxHeartbeats 400000 in
theorem nOnly (H : NB w v) (t : Tok) : Calls Tryz.prog 46 #[v, t.val] w fun e w' => e = .returned (.int .i64 (-1)) ∧ Below w.heap.size w w' := by
  have N := Lib.hid (nInsert (H.loc (below_alloc (Below.refl _ _) (.cells t.cells.toArray 24))) t 0)
  unfold Tok.val Tok.cells at N
  unfold Tok.val Tok.cells
  clear H
  go_enter Tryz.func46, Tryz.ntmps46
  go_wp2_with (go_at_call 45; refine N.out.mono ?_; rintro e w1 ⟨rfl, hb1⟩)
  go_ret
  exact ⟨rfl, below_step (below_alloc (Below.refl _ _) _) hb1⟩

set_option maxHeartbeats 400000 in
theorem nImply (H : NB w v) (name : Str) : Calls Tryz.prog 47 #[v, .string name] w fun e w' => e = .returned (.int .i64 (-1)) ∧ Below w.heap.size w w' := by
  have N := Lib.hid (nInsert H (impTok name) 0)
  clear H
  go_enter Tryz.func47, Tryz.ntmps47
  go_wp2_with fail
  refine N.out.mono ?_
  rintro e w1 ⟨rfl, hb1⟩
  go_wp2_with fail
  go_ret
  exact ⟨rfl, hb1⟩

def ndZ : Nd := { kind := 0, name := ⟨#[]⟩, text := ⟨#[]⟩, space := 0, attrs := [], dup := false, parent := 0, content := 0, kids := [], frm := 0, to_ := 0 }

set_option maxHeartbeats 1000000 in
theorem nCurrent (H : NB w v) : Calls Tryz.prog 42 #[v] w fun e w' => e = .returned (ndVal ndZ none 0 none 0) ∧ Below w.heap.size w w' := by
  have N := Lib.hid (nNone (H.loc (below_alloc (Below.refl _ _) (.cells zeroNode.toArray 58))))
  unfold zeroNode at N
  clear H
  go_enter Tryz.func42, Tryz.ntmps42
  go_wp2_with (go_at_call 63; refine N.out.mono ?_; rintro e w1 ⟨rfl, rfl⟩)
  refine bodyPost_ret (v := ndVal ndZ none 0 none 0) ?_ rfl ?_
  · have HBx := HB.new w 58 zeroNode
    have d := HBx.cell
    unfold zeroNode at d
    have d0 := d 0
    have d1 := d 1
    have d2 := d 2
    have d3 := d 3
    have d4 := d 4
    have d5 := d 5
    have d6 := d 6
    have d7 := d 7
    have d8 := d 8
    have d9 := d 9
    have d10 := d 10
    simp only [List.getElem?_cons_zero, List.getElem?_cons_succ] at d0 d1 d2 d3 d4 d5 d6 d7 d8 d9 d10
    simp [results, Tryz.results42, go_sem, ndVal, ndZ, d0, d1, d2, d3, d4, d5, d6, d7, d8, d9, d10]
  · exact ⟨rfl, below_alloc (Below.refl _ _) _⟩

set_option maxHeartbeats 1000000 in
theorem nIs (H : NB w v) {g : Nat} {s : Str} (hs : Strs w g [s]) : Calls Tryz.prog 43 #[v, .slice (some ⟨g, 0, none⟩) 1 1] w fun e w' => e = .returned (.bool false) ∧ Below w.heap.size w w' := by
  have N := Lib.hid (nCurrent H)
  have HS := Lib.hid hs
  clear H hs
  go_enter Tryz.func43, Tryz.ntmps43
  go_wp2_with fail
  refine N.out.mono ?_
  rintro e w1 ⟨rfl, hb1⟩
  have B := Lib.hid (bHtml w1 ndZ none 0 none 0 g 1 [s] (by simp) (HS.out.below hb1))
  go_wp2_with fail
  refine B.out.mono ?_
  rintro e w2 ⟨rfl, hb2⟩
  go_wp2_with fail
  go_ret
  exact ⟨rfl, below_step hb1 hb2⟩
end
end Go.Proofs.YtjmlkmlbhfkhbaaGreatDoor
