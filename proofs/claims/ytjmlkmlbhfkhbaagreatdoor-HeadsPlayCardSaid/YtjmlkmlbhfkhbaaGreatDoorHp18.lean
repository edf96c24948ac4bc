/-
  heads.Head (90).
  heads.noscript (256).
-/
import Derived.Test.YtjmlkmlbhfkhbaaGreatDoorHp17
set_option linter.unusedSimpArgs false
set_option linter.unusedVariables false
namespace Go.Proofs.YtjmlkmlbhfkhbaaGreatDoor
open Go Go.RowKit

set_option maxRecDepth 100000 in
set_option maxHeartbeats 8000000 in
theorem hHead {w : World} {c : Col} {h : Hd} {st : St} (H : BRep w c h st) {N : Nat} (wf : Wf N st) (hN : N ≤ 9000000) (hs : st.stk.length ≤ 100) (hf : st.fmt.length < 64) (hml : st.modes.length ≤ 1000000) (t : Tok) (ht : TkOk w c t)
    (LV : 0 ≤ lastOf st.stk [nTemplate] → Lv h st w c) (hht : startB t [mHtml] = true → 0 < st.stk.length ∧ lastOf st.stk [nTemplate] < 0) :
    Calls Tryz.prog 90 #[.pointer (some ⟨h.b, 0, none⟩), t.val] w (StepB h (headM st t) w c) := by
  have O := Lib.hid (fun (W : World) (hb : Below w.heap.size w W) => ops_of H wf hN hs t ht hb)
  have OH := Lib.hid (fun (he : startB t [mHtml] = true) (W : World) (hb : Below w.heap.size w W) => html_of H wf hN hs (hht he).1 (hht he).2 t ht hb)
  have OW := Lib.hid (fun (W : World) (hb : Below w.heap.size w W) => (hOwn (H.loc hb) wf hN hs hf hml t (ht.loc hb) (fun ho => ⟨fun W C a b => (LV ho).th W C a ((Mv.of_below hb).trans b), fun W C a b => (LV ho).lv W C a ((Mv.of_below hb).trans b)⟩)).mono fun e w2 ho => ho.after hb)
  have hb0 : Below w.heap.size w (w.alloc (.cells t.cells.toArray 24)) := below_alloc (Below.refl _ _) _
  have B0 := HB.new w 24 t.cells
  have BOX : Hid (∀ W C, Mv (Pr h) (w.alloc (.cells t.cells.toArray 24)) c W C → HB W w.heap.size 24 t.cells) := Lib.hid fun W C hm => B0.mvk hm (fun e => H.sd (by unfold Pr at e; rw [← e, H.gd _ (Nat.le_refl _)]))
  obtain ⟨b0, b1, b2, b3, b4, b5, b6, b7, b8⟩ := B0.tok
  have hl1 : st.stk.length ≤ 1000000 := by omega
  have AR := Lib.hid (bArena (H.loc hb0))
  have PO := Lib.hid (fun (W : World) (hb : Below w.heap.size w W) => And.intro (bStack (H.loc hb)) (sPop (H.loc hb) hl1))
  clear H wf ht hs hf hml hht LV hl1
  by_cases k1 : t.kind = 1
  · have EQ : Hid (headM st t = (st, false)) := Lib.hid (by unfold headM; rw [if_pos k1])
    have k1' : (t.kind == 1) = true := by simp [k1]
    clear k1
    unfold Tok.val Tok.cells
    go_enter Tryz.func90, Tryz.ntmps90
    go_wp2_with (go_at_call 30; refine AR.out.mono ?_; rintro e w2 ⟨rfl, rfl⟩)
    go_ret
    exact StepB.mk EQ.out ⟨rfl, c, (O.out _ hb0).rep, Mv.of_below hb0⟩
  · have k1' : (t.kind == 1) = false := by simp [k1]
    by_cases k5 : t.kind = 5
    · have EQ : Hid (headM st t = (chM st t.text, false)) := Lib.hid (by unfold headM; rw [if_neg k1, if_pos k5])
      have k5' : (t.kind == 5) = true := by simp [k5]
      clear k1 k5
      unfold Tok.val Tok.cells
      go_enter Tryz.func90, Tryz.ntmps90
      go_wp2_with (go_at_call 30; refine AR.out.mono ?_; rintro e w2 ⟨rfl, rfl⟩)
      refine (O.out _ hb0).chars.mono ?_
      rintro e w2 ⟨rfl, c2, H2, m2⟩
      go_wp2_with fail
      go_ret
      exact StepB.mk EQ.out ⟨rfl, c2, H2, m2⟩
    · have k5' : (t.kind == 5) = false := by simp [k5]
      by_cases k4 : t.kind = 4
      · have EQ : Hid (headM st t = (cmM st t.text (plIx st.ns (tgtIx st)), false)) := Lib.hid (by unfold headM; rw [if_neg k1, if_neg k5, if_pos k4])
        have k4' : (t.kind == 4) = true := by simp [k4]
        clear k1 k5 k4
        unfold Tok.val Tok.cells
        go_enter Tryz.func90, Tryz.ntmps90
        go_wp2_with (go_at_call 30; refine AR.out.mono ?_; rintro e w2 ⟨rfl, rfl⟩)
        refine (O.out _ hb0).com1.mono ?_
        rintro e w2 ⟨rfl, c2, H2, m2⟩
        go_wp2_with fail
        go_ret
        exact StepB.mk EQ.out ⟨rfl, c2, H2, m2⟩
      · have k4' : (t.kind == 4) = false := by simp [k4]
        have EQ : Hid (headM st t = if startB t [mHtml] then (htmlM st t, false) else if belB t then (ownM st t, false) else if startB t [mNoscript] then ({ insM st t 0 with mode := 4 }, false)
            else if startB t [mHead] then (st, false) else if strangeB t then (st, false) else ({ st with stk := st.stk.dropLast, mode := 5 }, !endB t [mHead])) := Lib.hid (by unfold headM; rw [if_neg k1, if_neg k5, if_neg k4])
        clear k1 k5 k4
        unfold Tok.val Tok.cells
        go_enter Tryz.func90, Tryz.ntmps90
        go_wp2_with (go_at_call 30; refine AR.out.mono ?_; rintro e w2 ⟨rfl, rfl⟩)
        refine Calls.mono (hStart _ t _ 1 [mHtml] (by decide) (by exact Strs.mk_ _ (by simp))) ?_
        rintro e w1 ⟨rfl, hb1⟩
        have hB1 := below_step (below_alloc hb0 _) hb1
        have B1 := (B0.alloc _).below hb1
        obtain ⟨d0, d1, d2, d3, d4, d5, d6, d7, d8⟩ := B1.tok
        clear b0 b1 b2 b3 b4 b5 b6 b7 b8
        cases hH : startB t [mHtml]
        · rw [hH, if_neg (by simp)] at EQ
          clear hH
          go_wp2_with fail
          refine Calls.mono (hBelongs _ t) ?_
          rintro e w2 ⟨rfl, hb2⟩
          have hB2 := below_step hB1 hb2
          have B2 := B1.below hb2
          obtain ⟨b0, b1, b2, b3, b4, b5, b6, b7, b8⟩ := B2.tok
          clear d0 d1 d2 d3 d4 d5 d6 d7 d8
          cases hL : belB t
          · rw [hL, if_neg (by simp)] at EQ
            clear hL
            go_wp2_with fail
            refine Calls.mono (hStart _ t _ 1 [mNoscript] (by decide) (by exact Strs.mk_ _ (by simp))) ?_
            rintro e w3 ⟨rfl, hb3⟩
            have hB3 := below_step (below_alloc hB2 _) hb3
            have B3 := (B2.alloc _).below hb3
            obtain ⟨d0, d1, d2, d3, d4, d5, d6, d7, d8⟩ := B3.tok
            clear b0 b1 b2 b3 b4 b5 b6 b7 b8
            cases hV : startB t [mNoscript]
            · rw [hV, if_neg (by simp)] at EQ
              clear hV
              go_wp2_with fail
              refine Calls.mono (hStart _ t _ 1 [mHead] (by decide) (by exact Strs.mk_ _ (by simp))) ?_
              rintro e w4 ⟨rfl, hb4⟩
              have hB4 := below_step (below_alloc hB3 _) hb4
              have B4 := (B3.alloc _).below hb4
              obtain ⟨b0, b1, b2, b3, b4, b5, b6, b7, b8⟩ := B4.tok
              clear d0 d1 d2 d3 d4 d5 d6 d7 d8
              cases hD : startB t [mHead]
              · rw [hD, if_neg (by simp)] at EQ
                clear hD
                go_wp2_with fail
                refine Calls.mono (hStrange _ t) ?_
                rintro e w5 ⟨rfl, hb5⟩
                have hB5 := below_step hB4 hb5
                clear b0 b1 b2 b3 b4 b5 b6 b7 b8
                cases hS : strangeB t
                · rw [hS, if_neg (by simp)] at EQ
                  clear hS
                  have PP := Lib.hid (PO.out _ hB5)
                  go_wp2_with (go_at_call 31; refine PP.out.1.mono ?_; rintro e w6 ⟨rfl, rfl⟩)
                  refine PP.out.2.mono ?_
                  rintro e w6 ⟨rfl, c6, H6, m6⟩
                  go_wp2_with fail
                  refine (bSet H6 5).mono ?_
                  rintro e w7 ⟨rfl, c7, H7, m7⟩
                  have hm7 : Mv (Pr h) w c w7 c7 := (Mv.of_below hB5).trans (m6.trans m7)
                  have hb05 : Below (w.alloc (.cells t.cells.toArray 24)).heap.size (w.alloc (.cells t.cells.toArray 24)) w5 := below_step (below_step (below_alloc (below_step (below_alloc (below_step (below_step (below_alloc (Below.refl _ _) _) hb1) hb2) _) hb3) _) hb4) hb5
                  have B7 := BOX.out _ _ ((Mv.of_below hb05).trans (m6.trans m7))
                  obtain ⟨b0, b1, b2, b3, b4, b5, b6, b7, b8⟩ := B7.tok
                  go_wp2_with fail
                  refine Calls.mono (hEnd _ t _ 1 [mHead] (by decide) (by exact Strs.mk_ _ (by simp))) ?_
                  rintro e w8 ⟨rfl, hb8⟩
                  have hB8 : Below w7.heap.size w7 w8 := below_step (below_alloc (Below.refl _ _) _) hb8
                  go_wp2_with fail
                  go_ret
                  exact StepB.mk EQ.out ⟨rfl, c7, H7.loc hB8, hm7.trans (Mv.of_below hB8)⟩
                · rw [hS, if_pos rfl] at EQ
                  clear hS
                  go_wp2_with fail
                  go_ret
                  exact StepB.mk EQ.out ⟨rfl, c, (O.out _ hB5).rep, Mv.of_below hB5⟩
              · rw [hD, if_pos rfl] at EQ
                clear hD
                go_wp2_with fail
                go_ret
                exact StepB.mk EQ.out ⟨rfl, c, (O.out _ hB4).rep, Mv.of_below hB4⟩
            · rw [hV, if_pos rfl] at EQ
              clear hV
              go_wp2_with fail
              refine (O.out _ hB3).ins.mono ?_
              rintro e w4 ⟨rfl, c4, H4, m4⟩
              go_wp2_with fail
              refine (bSet H4 4).mono ?_
              rintro e w5 ⟨rfl, c5, H5, m5⟩
              go_wp2_with fail
              go_ret
              exact StepB.mk EQ.out ⟨rfl, c5, H5, m4.trans m5⟩
          · rw [hL, if_pos rfl] at EQ
            clear hL
            go_wp2_with fail
            refine (OW.out _ hB2).mono ?_
            rintro e w4 ⟨rfl, c4, H4, m4⟩
            go_wp2_with fail
            go_ret
            exact StepB.mk EQ.out ⟨rfl, c4, H4, m4⟩
        · rw [hH, if_pos rfl] at EQ
          have OHH := Lib.hid (OH.out hH)
          clear hH
          go_wp2_with fail
          refine (OHH.out _ hB1).mono ?_
          rintro e w3 ⟨rfl, c3, H3, m3⟩
          go_wp2_with fail
          go_ret
          exact StepB.mk EQ.out ⟨rfl, c3, H3, m3⟩
end Go.Proofs.YtjmlkmlbhfkhbaaGreatDoor
namespace Go.Proofs.YtjmlkmlbhfkhbaaGreatDoor
open Go Go.RowKit

set_option maxRecDepth 100000 in
set_option maxHeartbeats 8000000 in
theorem hNoscript {w : World} {c : Col} {h : Hd} {st : St} (H : BRep w c h st) {N : Nat} (wf : Wf N st) (hN : N ≤ 9000000) (hs : st.stk.length ≤ 100) (hf : st.fmt.length < 64) (hml : st.modes.length ≤ 1000000) (t : Tok) (ht : TkOk w c t)
    (h0 : 0 < st.stk.length) (hno : lastOf st.stk [nTemplate] < 0) :
    Calls Tryz.prog 256 #[.pointer (some ⟨h.b, 0, none⟩), t.val] w (StepB h (noscriptM st t) w c) := by
  have HD := Lib.hid (fun (W : World) (hb : Below w.heap.size w W) => (hHead (H.loc hb) wf hN hs hf hml t (ht.loc hb) (fun ho => absurd ho (by omega)) (fun _ => ⟨h0, hno⟩)).mono fun e w2 (ho : OkB h (headM st t).1 (.bool (headM st t).2) W c e w2) => ho.after hb)
  have OKK := Lib.hid (fun (W : World) (hb : Below w.heap.size w W) => H.loc hb)
  have hb0 : Below w.heap.size w (w.alloc (.cells t.cells.toArray 24)) := below_alloc (Below.refl _ _) _
  have B0 := HB.new w 24 t.cells
  have BOX : Hid (∀ W C, Mv (Pr h) (w.alloc (.cells t.cells.toArray 24)) c W C → HB W w.heap.size 24 t.cells) := Lib.hid fun W C hm => B0.mvk hm (fun e => H.sd (by unfold Pr at e; rw [← e, H.gd _ (Nat.le_refl _)]))
  obtain ⟨b0, b1, b2, b3, b4, b5, b6, b7, b8⟩ := B0.tok
  have hl1 : st.stk.length ≤ 1000000 := by omega
  have PO := Lib.hid (fun (W : World) (hb : Below w.heap.size w W) => And.intro (bStack (H.loc hb)) (sPop (H.loc hb) hl1))
  clear H wf ht hs hf hml h0 hno hl1
  by_cases k1 : t.kind = 1
  · have EQ : Hid (noscriptM st t = (st, false)) := Lib.hid (by unfold noscriptM; rw [if_pos k1])
    have k1' : (t.kind == 1) = true := by simp [k1]
    clear k1
    unfold Tok.val Tok.cells
    go_enter Tryz.func256, Tryz.ntmps256
    go_wp2_with fail
    go_ret
    exact StepB.mk EQ.out ⟨rfl, c, OKK.out _ hb0, Mv.of_below hb0⟩
  · have k1' : (t.kind == 1) = false := by simp [k1]
    by_cases k5 : t.kind = 5
    · have s0 : startB t [mHead, mNoscript] = false := by unfold startB; simp [k5]
      have EQ : Hid (noscriptM st t = headM st t) := Lib.hid (by unfold noscriptM; rw [if_neg k1, if_neg (by simp [s0]), if_pos k5])
      have k5' : (t.kind == 5) = true := by simp [k5]
      have S0 := Lib.hid s0
      clear s0 k1 k5
      unfold Tok.val Tok.cells
      go_enter Tryz.func256, Tryz.ntmps256
      go_wp2_with fail
      refine Calls.mono (hStart _ t _ 2 [mHead, mNoscript] (by decide) (by exact Strs.mk_ _ (by simp))) ?_
      rintro e w1 ⟨rfl, hb1⟩
      have hB1 := below_step (below_alloc hb0 _) hb1
      have B1 := (B0.alloc _).below hb1
      obtain ⟨d0, d1, d2, d3, d4, d5, d6, d7, d8⟩ := B1.tok
      rw [S0.out]
      go_wp2_with fail
      refine (HD.out _ hB1).mono ?_
      rintro e w2 ⟨rfl, c2, H2, m2⟩
      go_wp2_with fail
      go_ret
      exact StepB.mk EQ.out ⟨rfl, c2, H2, m2⟩
    · have k5' : (t.kind == 5) = false := by simp [k5]
      by_cases k4 : t.kind = 4
      · have s0 : startB t [mHead, mNoscript] = false := by unfold startB; simp [k4]
        have EQ : Hid (noscriptM st t = headM st t) := Lib.hid (by unfold noscriptM; rw [if_neg k1, if_neg (by simp [s0]), if_neg k5, if_pos k4])
        have k4' : (t.kind == 4) = true := by simp [k4]
        have S0 := Lib.hid s0
        clear s0 k1 k5 k4
        unfold Tok.val Tok.cells
        go_enter Tryz.func256, Tryz.ntmps256
        go_wp2_with fail
        refine Calls.mono (hStart _ t _ 2 [mHead, mNoscript] (by decide) (by exact Strs.mk_ _ (by simp))) ?_
        rintro e w1 ⟨rfl, hb1⟩
        have hB1 := below_step (below_alloc hb0 _) hb1
        have B1 := (B0.alloc _).below hb1
        obtain ⟨d0, d1, d2, d3, d4, d5, d6, d7, d8⟩ := B1.tok
        rw [S0.out]
        go_wp2_with fail
        refine (HD.out _ hB1).mono ?_
        rintro e w2 ⟨rfl, c2, H2, m2⟩
        go_wp2_with fail
        go_ret
        exact StepB.mk EQ.out ⟨rfl, c2, H2, m2⟩
      · have k4' : (t.kind == 4) = false := by simp [k4]
        have EQ : Hid (noscriptM st t = if startB t [mHead, mNoscript] then (st, false) else if startB t nosNames then headM st t
            else if t.kind = 3 ∧ eqS t.name mNoscript = false ∧ eqS t.name mBr = false then (st, false) else ({ st with stk := st.stk.dropLast, mode := 3 }, !endB t [mNoscript])) := Lib.hid (by unfold noscriptM; rw [if_neg k1, if_neg k5, if_neg k4])
        clear k1 k5 k4
        have FIN : Hid (∀ W, Below w.heap.size w W → Below (w.alloc (.cells t.cells.toArray 24)).heap.size (w.alloc (.cells t.cells.toArray 24)) W →
            Calls Tryz.prog 31 #[.pointer (some ⟨h.b, 0, none⟩)] W (fun e w' => e = .returned (.pointer (some ⟨h.s, 0, none⟩)) ∧ W = w') ∧
            Calls Tryz.prog 61 #[.pointer (some ⟨h.s, 0, none⟩)] W (fun e w' => e = .returned (.int .i64 (topOf st.stk)) ∧
              Calls Tryz.prog 8 #[.pointer (some ⟨h.b, 0, none⟩), .int .i64 3] w' (fun e w7 => e = .returned (.tuple #[]) ∧ HB w7 w.heap.size 24 t.cells ∧
                ∀ w8, Below w7.heap.size w7 w8 → OkB h { st with stk := st.stk.dropLast, mode := 3 } (.bool (!endB t [mNoscript])) w c (.returned (.bool (!endB t [mNoscript]))) w8))) := Lib.hid (by
          intro W hW hW0
          obtain ⟨p1, p2⟩ := PO.out W hW
          refine ⟨p1, p2.mono ?_⟩
          rintro e w6 ⟨rfl, c6, H6, m6⟩
          refine ⟨rfl, (bSet H6 3).mono ?_⟩
          rintro e w7 ⟨rfl, c7, H7, m7⟩
          exact ⟨rfl, BOX.out _ _ ((Mv.of_below hW0).trans (m6.trans m7)), fun w8 hb8 => ⟨rfl, c7, H7.loc hb8, (Mv.of_below hW).trans (m6.trans (m7.trans (Mv.of_below hb8)))⟩⟩)
        unfold Tok.val
        unfold Tok.cells at *
        go_enter Tryz.func256, Tryz.ntmps256
        go_wp2_with fail
        refine Calls.mono (hStart _ t _ 2 [mHead, mNoscript] (by decide) (by exact Strs.mk_ _ (by simp))) ?_
        rintro e w1 ⟨rfl, hb1⟩
        have hB1 := below_step (below_alloc hb0 _) hb1
        have B1 := (B0.alloc _).below hb1
        have B1' : HB w1 w.heap.size 24 t.cells := B1
        obtain ⟨d0, d1, d2, d3, d4, d5, d6, d7, d8⟩ := B1'.tok
        clear b0 b1 b2 b3 b4 b5 b6 b7 b8
        cases hH : startB t [mHead, mNoscript]
        · rw [hH, if_neg (by simp)] at EQ
          clear hH
          go_wp2_with fail
          refine Calls.mono (hStart _ t _ 7 nosNames (by decide) (by exact Strs.mk_ _ (by simp))) ?_
          rintro e w2 ⟨rfl, hb2⟩
          have hB2 := below_step (below_alloc hB1 _) hb2
          have B2 := (B1'.alloc _).below hb2
          obtain ⟨b0, b1, b2, b3, b4, b5, b6, b7, b8⟩ := B2.tok
          have hb02 : Below (w.alloc (.cells t.cells.toArray 24)).heap.size (w.alloc (.cells t.cells.toArray 24)) w2 := below_step (below_alloc (below_step (below_alloc (Below.refl _ _) _) hb1) _) hb2
          clear d0 d1 d2 d3 d4 d5 d6 d7 d8
          cases hL : startB t nosNames
          · rw [hL, if_neg (by simp)] at EQ
            clear hL
            have F2 := Lib.hid (FIN.out w2 hB2 hb02)
            cases k3 : (t.kind == 3)
            · have EQ2 : Hid (noscriptM st t = ({ st with stk := st.stk.dropLast, mode := 3 }, !endB t [mNoscript])) := Lib.hid (EQ.out.trans (if_neg (fun hh => by rw [hh.1] at k3; cases k3)))
              clear EQ
              go_wp2_with (go_at_call 31; refine F2.out.1.mono ?_; rintro e w6 ⟨rfl, rfl⟩)
              refine F2.out.2.mono ?_
              rintro e w6 ⟨rfl, C8⟩
              go_wp2_with fail
              refine C8.mono ?_
              rintro e w7 ⟨rfl, B7, F7⟩
              have F7H := Lib.hid F7
              clear F7
              obtain ⟨d0, d1, d2, d3, d4, d5, d6, d7, d8⟩ := B7.tok
              go_wp2_with fail
              refine Calls.mono (hEnd _ t _ 1 [mNoscript] (by decide) (by exact Strs.mk_ _ (by simp))) ?_
              rintro e w8 ⟨rfl, hb8⟩
              go_wp2_with fail
              go_ret
              exact StepB.mk EQ2.out (F7H.out _ (below_step (below_alloc (Below.refl _ _) _) hb8))
            · cases e1 : (t.name.toList == [110, 111, 115, 99, 114, 105, 112, 116])
              · cases e2 : (t.name.toList == [98, 114])
                · have EQ2 : Hid (noscriptM st t = (st, false)) := Lib.hid (EQ.out.trans (if_pos ⟨by simpa using k3, (eqS_lit _ _).trans e1, (eqS_lit _ _).trans e2⟩))
                  go_wp2_with fail
                  go_ret
                  exact StepB.mk EQ2.out ⟨rfl, c, OKK.out _ hB2, Mv.of_below hB2⟩
                · have EQ2 : Hid (noscriptM st t = ({ st with stk := st.stk.dropLast, mode := 3 }, !endB t [mNoscript])) := Lib.hid (EQ.out.trans (if_neg (fun hh => by have := hh.2.2; rw [show eqS t.name mBr = true from (eqS_lit _ _).trans e2] at this; cases this)))
                  clear EQ
                  go_wp2_with (go_at_call 31; refine F2.out.1.mono ?_; rintro e w6 ⟨rfl, rfl⟩)
                  refine F2.out.2.mono ?_
                  rintro e w6 ⟨rfl, C8⟩
                  go_wp2_with fail
                  refine C8.mono ?_
                  rintro e w7 ⟨rfl, B7, F7⟩
                  have F7H := Lib.hid F7
                  clear F7
                  obtain ⟨d0, d1, d2, d3, d4, d5, d6, d7, d8⟩ := B7.tok
                  go_wp2_with fail
                  refine Calls.mono (hEnd _ t _ 1 [mNoscript] (by decide) (by exact Strs.mk_ _ (by simp))) ?_
                  rintro e w8 ⟨rfl, hb8⟩
                  go_wp2_with fail
                  go_ret
                  exact StepB.mk EQ2.out (F7H.out _ (below_step (below_alloc (Below.refl _ _) _) hb8))
              · have EQ2 : Hid (noscriptM st t = ({ st with stk := st.stk.dropLast, mode := 3 }, !endB t [mNoscript])) := Lib.hid (EQ.out.trans (if_neg (fun hh => by have := hh.2.1; rw [show eqS t.name mNoscript = true from (eqS_lit _ _).trans e1] at this; cases this)))
                clear EQ
                go_wp2_with (go_at_call 31; refine F2.out.1.mono ?_; rintro e w6 ⟨rfl, rfl⟩)
                refine F2.out.2.mono ?_
                rintro e w6 ⟨rfl, C8⟩
                go_wp2_with fail
                refine C8.mono ?_
                rintro e w7 ⟨rfl, B7, F7⟩
                have F7H := Lib.hid F7
                clear F7
                obtain ⟨d0, d1, d2, d3, d4, d5, d6, d7, d8⟩ := B7.tok
                go_wp2_with fail
                refine Calls.mono (hEnd _ t _ 1 [mNoscript] (by decide) (by exact Strs.mk_ _ (by simp))) ?_
                rintro e w8 ⟨rfl, hb8⟩
                go_wp2_with fail
                go_ret
                exact StepB.mk EQ2.out (F7H.out _ (below_step (below_alloc (Below.refl _ _) _) hb8))
          · rw [hL, if_pos rfl] at EQ
            clear hL
            go_wp2_with fail
            refine (HD.out _ hB2).mono ?_
            rintro e w3 ⟨rfl, c3, H3, m3⟩
            go_wp2_with fail
            go_ret
            exact StepB.mk EQ.out ⟨rfl, c3, H3, m3⟩
        · rw [hH, if_pos rfl] at EQ
          clear hH
          go_wp2_with fail
          go_ret
          exact StepB.mk EQ.out ⟨rfl, c, OKK.out _ hB1, Mv.of_below hB1⟩
end Go.Proofs.YtjmlkmlbhfkhbaaGreatDoor
