/-
  The builder's found.
-/
import Derived.Test.YtjmlkmlbhfkhbaaGreatDoorBy
import Derived.BigQuiet
namespace Go.Proofs.YtjmlkmlbhfkhbaaGreatDoor
open Go Go.RowKit

theorem BRep.head {w : World} {c : Col} {h : Hd} {st : St} (H : BRep w c h st) : w.cell? ⟨h.b, 6, none⟩ = some (.int .i64 st.head) := by
  obtain ⟨b0, b1, b2, b3, b4, b5, b6, -⟩ := H.choose_spec.bc
  exact b6
theorem BRep.modes {w : World} {c : Col} {h : Hd} {st : St} (H : BRep w c h st) : ∃ A cap, w.cell? ⟨h.b, 5, none⟩ = some (.slice A st.modes.length cap) ∧ RowOk w c (h.sd, 10, 0) 3 1 A st.modes.length cap (intCells st.modes) := by
  obtain ⟨b0, b1, b2, b3, b4, b5, b6, -⟩ := H.choose_spec.bc
  exact ⟨_, _, b5, H.choose_spec.modes⟩

section
variable {w : World} {c : Col} {h : Hd} {st : St}

theorem ret_found {a b : Int} {x y : Bool} (h : (a, x) = (b, y)) : Ending.returned (.tuple #[.int .i64 b, .bool y]) = .returned (.tuple #[.int .i64 a, .bool x]) := by cases h; rfl

set_option maxRecDepth 100000 in
set_option maxHeartbeats 4000000 in
theorem bFound (H : BRep w c h st) (hby : ByOk w c) (n : Nd) (A : Option Addr) (c1 : Nat) (K : Option Addr) (c2 : Nat) (first : Bool) (hnm : n.name.size ≤ maxLen) (hml : st.modes.length ≤ 1000000) :
    Calls Tryz.prog 78 #[.pointer (some ⟨h.b, 0, none⟩), ndVal n A c1 K c2, .bool first] w fun e w' =>
      e = .returned (.tuple #[.int .i64 (foundR st n first).1, .bool (foundR st n first).2]) ∧ Below w.heap.size w w' := by
  have hb0 : Below w.heap.size w (w.alloc (.cells #[.int .i64 n.kind, .string n.name, .string n.text, .int .i64 n.space, .slice A n.attrs.length c1, .bool n.dup, .int .i64 n.parent, .int .i64 n.content, .slice K n.kids.length c2, .int .i64 n.frm, .int .i64 n.to_] 58)) := below_alloc (Below.refl _ _) _
  obtain ⟨mb, es, clock, -, -, B0⟩ := hby.loc hb0
  have q6 := H.head
  obtain ⟨mA, mcap, q5, hrow⟩ := H.modes
  have g1 := B0.cell
  have LK := Lib.hid (B0.look _ n.name B0.blk hnm)
  unfold byV at LK
  have ROW := Lib.hid hrow
  have hlb := H.choose_spec.hb.lt
  clear H hby hrow B0
  unfold ndVal
  by_cases hsp : n.space = 0
  · have hsp' : (n.space == 0) = true := by simp [hsp]
    have hsp2 : (n.space != 0) = false := by simp [hsp]
    cases ht : eqS n.name nTemplate
    · have ht' : (n.name.toList == [116, 101, 109, 112, 108, 97, 116, 101]) = false := by rw [← toList_mk [116, 101, 109, 112, 108, 97, 116, 101]]; exact ht
      cases hh : eqS n.name nHtml
      · have hh' : (n.name.toList == [104, 116, 109, 108]) = false := by rw [← toList_mk [104, 116, 109, 108]]; exact hh
        have R : Hid (foundR st n first = if first && (decide (byN n.name = 14) || decide (byN n.name = 3)) then (0, false) else (byN n.name, byB n.name)) := Lib.hid (by unfold foundR; rw [if_neg (by simp [hsp]), ht, hh]; simp)
        clear ht hh hsp
        cases first
        · go_enter Tryz.func78, Tryz.ntmps78
          have lk := LK.out
          go_wp2_with fail
          refine bodyPost_ret (results_tmp2 rfl _ _ _) rfl ?_
          exact ⟨ret_found (by rw [R.out]; rfl), hb0⟩
        · by_cases h14 : byN n.name = 14
          · have R2 : Hid (foundR st n true = (0, false)) := Lib.hid (by rw [R.out, decide_eq_true h14]; rfl)
            rw [h14] at LK
            go_enter Tryz.func78, Tryz.ntmps78
            have lk := LK.out
            go_wp2_with fail
            refine bodyPost_ret (results_tmp2 rfl _ _ _) rfl ?_
            exact ⟨ret_found (by rw [R2.out]), hb0⟩
          · have e14 : (byN n.name == 14) = false := by simp [h14]
            by_cases h3 : byN n.name = 3
            · have R2 : Hid (foundR st n true = (0, false)) := Lib.hid (by rw [R.out, decide_eq_true h3]; simp)
              rw [h3] at LK
              clear e14
              go_enter Tryz.func78, Tryz.ntmps78
              have lk := LK.out
              go_wp2_with fail
              refine bodyPost_ret (results_tmp2 rfl _ _ _) rfl ?_
              exact ⟨ret_found (by rw [R2.out]), hb0⟩
            · have e3 : (byN n.name == 3) = false := by simp [h3]
              have R2 : Hid (foundR st n true = (byN n.name, byB n.name)) := Lib.hid (by rw [R.out, decide_eq_false h14, decide_eq_false h3]; rfl)
              clear h14 h3 R
              go_enter Tryz.func78, Tryz.ntmps78
              have lk := LK.out
              go_wp2_with fail
              refine bodyPost_ret (results_tmp2 rfl _ _ _) rfl ?_
              exact ⟨ret_found (by rw [R2.out]), hb0⟩
      · have hh' : (n.name.toList == [104, 116, 109, 108]) = true := by rw [← toList_mk [104, 116, 109, 108]]; exact hh
        by_cases hd : st.head < 0
        · have R : Hid (foundR st n first = (2, true)) := Lib.hid (by unfold foundR; rw [if_neg (by simp [hsp]), ht, hh, decide_eq_true hd]; rfl)
          clear ht hh hsp
          go_enter Tryz.func78, Tryz.ntmps78
          have lk := LK.out
          go_wp2_with fail
          refine bodyPost_ret (results_tmp2 rfl _ _ _) rfl ?_
          exact ⟨ret_found (by rw [R.out]), hb0⟩
        · have R : Hid (foundR st n first = (5, true)) := Lib.hid (by unfold foundR; rw [if_neg (by simp [hsp]), ht, hh, decide_eq_false hd]; rfl)
          clear ht hh hsp
          go_enter Tryz.func78, Tryz.ntmps78
          have lk := LK.out
          go_wp2_with fail
          refine bodyPost_ret (results_tmp2 rfl _ _ _) rfl ?_
          exact ⟨ret_found (by rw [R.out]), hb0⟩
    · have ht' : (n.name.toList == [116, 101, 109, 112, 108, 97, 116, 101]) = true := by rw [← toList_mk [116, 101, 109, 112, 108, 97, 116, 101]]; exact ht
      by_cases hm : 0 < st.modes.length
      · have R : Hid (foundR st n first = ((st.modes[st.modes.length - 1]?).getD 0, true)) := Lib.hid (by unfold foundR; rw [if_neg (by simp [hsp]), ht, decide_eq_true hm]; rfl)
        obtain ⟨g, rfl, -, -, hc, -⟩ := ROW.out.at_ (by simpa using hm)
        have hc1 := hc (st.modes.length - 1) (.int .i64 ((st.modes[st.modes.length - 1]?).getD 0)) (by simp [intCells]; rw [List.getElem?_eq_getElem (by omega)]; rfl)
        have hi1 : (0 : Int) ≤ (st.modes.length : Int) - 1 := by omega
        have hi2 : (st.modes.length : Int) - 1 < (st.modes.length : Int) := by omega
        have hi3 : ((st.modes.length : Int) - 1).toNat = st.modes.length - 1 := by omega
        have hm' : (0 : Int) < (st.modes.length : Int) := by omega
        have hb1 : ∀ m, Below w.heap.size w ((w.alloc (.cells #[.int .i64 n.kind, .string n.name, .string n.text, .int .i64 n.space, .slice A n.attrs.length c1, .bool n.dup, .int .i64 n.parent, .int .i64 n.content, .slice K n.kids.length c2, .int .i64 n.frm, .int .i64 n.to_] 58)).drewN m) := fun m => below_step hb0 (bdrewN _ m)
        have hgb := block_lt_of_cell hc1
        clear ht hsp hc hm
        go_enter Tryz.func78, Tryz.ntmps78
        have lk := LK.out
        go_wp2_with fail
        go_quiet (fail)
        go_wp2_with fail
        refine bodyPost_ret (results_tmp2 rfl _ _ _) rfl ?_
        exact ⟨ret_found (by rw [R.out]), hb1 _⟩
      · have hm0 : st.modes.length = 0 := by omega
        have hh' : (n.name.toList == [104, 116, 109, 108]) = false := by
          have e : n.name.toList = [116, 101, 109, 112, 108, 97, 116, 101] := by simpa using ht'
          rw [e]; decide
        have hq : eqS n.name nHtml = false := by rw [← toList_mk [104, 116, 109, 108]] at hh'; exact hh'
        have hm1 : (0 : Int) < (st.modes.length : Int) ↔ False := by simp [hm0]
        have R : Hid (foundR st n first = if first && (decide (byN n.name = 14) || decide (byN n.name = 3)) then (0, false) else (byN n.name, byB n.name)) := Lib.hid (by unfold foundR; rw [if_neg (by simp [hsp]), ht, hq, hm0]; simp)
        have e1 : byN n.name = 0 := by
          have e : n.name.toList = [116, 101, 109, 112, 108, 97, 116, 101] := by simpa using ht'
          have : n.name.data.toList = [116, 101, 109, 112, 108, 97, 116, 101] := by rw [← ByteArray.toList_eq]; exact e
          unfold byN byM
          rw [this]; rfl
        rw [e1] at R LK
        clear ht hsp hm hq
        rw [hm0] at q5
        go_enter Tryz.func78, Tryz.ntmps78
        have lk := LK.out
        go_wp2_with fail
        all_goals (refine bodyPost_ret (results_tmp2 rfl _ _ _) rfl ?_)
        all_goals exact ⟨ret_found (by rw [R.out]; cases first <;> rfl), hb0⟩
  · have hsp' : (n.space == 0) = false := by simp [hsp]
    have R : Hid (foundR st n first = (0, false)) := Lib.hid (by unfold foundR; rw [if_pos hsp])
    clear hsp
    go_enter Tryz.func78, Tryz.ntmps78
    have lk := LK.out
    go_wp2_with fail
    refine bodyPost_ret (results_tmp2 rfl _ _ _) rfl ?_
    exact ⟨ret_found (by rw [R.out]), hb0⟩
end
end Go.Proofs.YtjmlkmlbhfkhbaaGreatDoor
