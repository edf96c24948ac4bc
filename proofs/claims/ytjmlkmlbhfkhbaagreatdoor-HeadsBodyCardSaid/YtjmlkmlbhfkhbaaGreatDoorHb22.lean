/-
  heads.afterHead (257).
  The chapter's tokens as states.
  At the text's end the mode is the body's.
-/
import Derived.Test.YtjmlkmlbhfkhbaaGreatDoorHb19
import Derived.Test.YtjmlkmlbhfkhbaaGreatDoorHb20
import Derived.Test.YtjmlkmlbhfkhbaaGreatDoorHb21
import Derived.Test.YtjmlkmlbhfkhbaaGreatDoorHb09
set_option linter.unusedSimpArgs false
set_option linter.unusedVariables false
namespace Go.Proofs.YtjmlkmlbhfkhbaaGreatDoor
open Go Go.RowKit

theorem TkOk.mv {h : Hd} {w w' : World} {c c' : Col} {t : Tok} (ht : TkOk w c t) (hs : h.sd ≠ 0) (hm : Mv (Pr h) w c w' c') : TkOk w' c' t :=
  ⟨ht.name, ht.text, ht.attrs, ht.at_.mv hm (fun k e => by unfold Pr at e; rw [e]; exact hs)⟩

/-- What afterHead does with a token that belongs to a head. -/
theorem aft_bel {w : World} {c : Col} {h : Hd} {st : St} (H : BRep w c h st) {N : Nat} (wf : Wf N st) (hN : N ≤ 9000000) (hs : st.stk.length ≤ 90) (hf : st.fmt.length < 64) (hml : st.modes.length ≤ 1000000) (t : Tok) (ht : TkOk w c t)
    {b : Nat} (hb : IsEl st.ns b mHead) (hh : st.head = (b : Int)) (hno : lastOf (pushM st).stk [nTemplate] < 0)
    (hrm : (ownM (pushM st) t).head = st.head ∧ (ownM (pushM st) t).stk.length ≤ 1000 ∧ ∃ k : Nat, ixFrom (ownM (pushM st) t).stk st.head (ownM (pushM st) t).stk.length = (k : Int)) :
    Calls Tryz.prog 88 #[.pointer (some ⟨h.s, 0, none⟩), .int .i64 st.head] w (fun e w1 => e = .returned (.int .i64 0) ∧ ∃ c1, BRep w1 c1 h (pushM st) ∧ Mv (Pr h) w c w1 c1 ∧
      Calls Tryz.prog 136 #[.pointer (some ⟨h.b, 0, none⟩), t.val] w1 (fun e w2 => e = .returned (.tuple #[]) ∧ ∃ c2, BRep w2 c2 h (ownM (pushM st) t) ∧ Mv (Pr h) w c w2 c2 ∧
        Calls Tryz.prog 31 #[.pointer (some ⟨h.b, 0, none⟩)] w2 (fun e w' => e = .returned (.pointer (some ⟨h.s, 0, none⟩)) ∧ w2 = w') ∧
        Calls Tryz.prog 36 #[.pointer (some ⟨h.b, 0, none⟩)] w2 (fun e w' => e = .returned (.int .i64 st.head) ∧ w2 = w') ∧
        Calls Tryz.prog 259 #[.pointer (some ⟨h.s, 0, none⟩), .int .i64 st.head] w2 (OkB h (remM (ownM (pushM st) t)) (.int .i64 0) w c))) := by
  obtain ⟨n, h1, h2, h3, h4⟩ := hb
  have hp : pushM st = { st with stk := st.stk ++ [⟨(b : Int), n.space, n.name⟩] } := by
    unfold pushM
    rw [hh, Int.toNat_natCast, h1]
  have P := sPush H wf.sz (by omega) (by omega) h1 h2
  rw [← hp] at P
  have wp : Wf N (pushM st) := by rw [hp]; exact wf.push h1 h2
  rw [hh]
  refine P.mono ?_
  rintro e w1 ⟨rfl, c1, H1, m1⟩
  refine ⟨rfl, c1, H1, m1, (hOwn H1 wp hN (by rw [hp]; simp; omega) (by rw [hp]; exact hf) (by rw [hp]; exact hml) t (ht.mv H.sd m1) (fun ho => absurd ho (by omega))).mono ?_⟩
  rintro e w2 ⟨rfl, c2, H2, m2⟩
  obtain ⟨r1, r2, k, r3⟩ := hrm
  have HD := bHead H2
  rw [r1, hh] at HD
  refine ⟨rfl, c2, H2, m1.trans m2, bStack H2, HD, ?_⟩
  have he : remM (ownM (pushM st) t) = { ownM (pushM st) t with stk := (ownM (pushM st) t).stk.eraseIdx k } := by
    have r4 : ixFrom (ownM (pushM st) t).stk (ownM (pushM st) t).head (ownM (pushM st) t).stk.length = (k : Int) := by rw [r1]; exact r3
    unfold remM
    rw [r4, if_neg (by omega), Int.toNat_natCast]
  rw [he]
  rw [hh] at r3
  refine (sRemove H2 (by omega) (b : Int) r3).mono ?_
  rintro e w3 ⟨rfl, c3, H3, m3⟩
  exact ⟨rfl, c3, H3, (m1.trans m2).trans m3⟩

set_option maxRecDepth 100000 in
set_option maxHeartbeats 8000000 in
theorem hAftHead {w : World} {c : Col} {h : Hd} {st : St} (H : BRep w c h st) {N : Nat} (wf : Wf N st) (hN : N ≤ 9000000) (hs : st.stk.length ≤ 90) (hf : st.fmt.length < 64) (hml : st.modes.length ≤ 1000000) (t : Tok) (ht : TkOk w c t)
    (h0 : 0 < st.stk.length) (hno : lastOf st.stk [nTemplate] < 0) {b : Nat} (hb : IsEl st.ns b mHead) (hh : st.head = (b : Int)) (hno2 : lastOf (pushM st).stk [nTemplate] < 0)
    (hrm : belB t = true → (ownM (pushM st) t).head = st.head ∧ (ownM (pushM st) t).stk.length ≤ 1000 ∧ ∃ k : Nat, ixFrom (ownM (pushM st) t).stk st.head (ownM (pushM st) t).stk.length = (k : Int)) :
    Calls Tryz.prog 257 #[.pointer (some ⟨h.b, 0, none⟩), t.val] w (StepB h (aftHeadM st t) w c) := by
  have O := Lib.hid (fun (W : World) (hb : Below w.heap.size w W) => ops_of H wf hN (show st.stk.length ≤ 100 by omega) t ht hb)
  have OH := Lib.hid (fun (W : World) (hb : Below w.heap.size w W) => html_of H wf hN (show st.stk.length ≤ 100 by omega) h0 hno t ht hb)
  have HD := Lib.hid (fun (W : World) (hb : Below w.heap.size w W) => (hHead (H.loc hb) wf hN (by omega) hf hml t (ht.loc hb) (fun ho => absurd ho (by omega)) (fun _ => ⟨h0, hno⟩)).mono fun e w2 (ho : OkB h (headM st t).1 (.bool (headM st t).2) W c e w2) => ho.after hb)
  have AB := Lib.hid (fun (hl : belB t = true) (W : World) (hB : Below w.heap.size w W) => And.intro (And.intro (bStack (H.loc hB)) (bHead (H.loc hB))) (aft_bel (H.loc hB) wf hN hs hf hml t (ht.loc hB) hb hh hno2 (hrm hl)))
  have hb0 : Below w.heap.size w (w.alloc (.cells t.cells.toArray 24)) := below_alloc (Below.refl _ _) _
  have B0 := HB.new w 24 t.cells
  have BOX : Hid (∀ W C, Mv (Pr h) (w.alloc (.cells t.cells.toArray 24)) c W C → HB W w.heap.size 24 t.cells) := Lib.hid fun W C hm => B0.mvk hm (fun e => H.sd (by unfold Pr at e; rw [← e, H.gd _ (Nat.le_refl _)]))
  obtain ⟨b0, b1, b2, b3, b4, b5, b6, b7, b8⟩ := B0.tok
  clear H wf ht hs hf hml h0 hno hb hh hno2 hrm
  by_cases k5 : t.kind = 5
  · have EQ : Hid (aftHeadM st t = (chM st t.text, false)) := Lib.hid (by unfold aftHeadM; rw [if_pos k5])
    have k5' : (t.kind == 5) = true := by simp [k5]
    clear k5
    unfold Tok.val Tok.cells
    go_enter Tryz.func257, Tryz.ntmps257
    go_wp2_with fail
    refine (O.out _ hb0).chars.mono ?_
    rintro e w2 ⟨rfl, c2, H2, m2⟩
    go_wp2_with fail
    go_ret
    exact StepB.mk EQ.out ⟨rfl, c2, H2, m2⟩
  · have k5' : (t.kind == 5) = false := by simp [k5]
    by_cases k4 : t.kind = 4
    · have EQ : Hid (aftHeadM st t = (cmM st t.text (plIx st.ns (tgtIx st)), false)) := Lib.hid (by unfold aftHeadM; rw [if_neg k5, if_pos k4])
      have k4' : (t.kind == 4) = true := by simp [k4]
      clear k5 k4
      unfold Tok.val Tok.cells
      go_enter Tryz.func257, Tryz.ntmps257
      go_wp2_with fail
      refine (O.out _ hb0).com1.mono ?_
      rintro e w2 ⟨rfl, c2, H2, m2⟩
      go_wp2_with fail
      go_ret
      exact StepB.mk EQ.out ⟨rfl, c2, H2, m2⟩
    · have k4' : (t.kind == 4) = false := by simp [k4]
      by_cases k1 : t.kind = 1
      · have EQ : Hid (aftHeadM st t = (st, false)) := Lib.hid (by unfold aftHeadM; rw [if_neg k5, if_neg k4, if_pos k1])
        have k1' : (t.kind == 1) = true := by simp [k1]
        clear k5 k4 k1
        unfold Tok.val Tok.cells
        go_enter Tryz.func257, Tryz.ntmps257
        go_wp2_with fail
        go_ret
        exact StepB.mk EQ.out ⟨rfl, c, (O.out _ hb0).rep, Mv.of_below hb0⟩
      · have k1' : (t.kind == 1) = false := by simp [k1]
        have EQ : Hid (aftHeadM st t = if startB t [mHead, mFrameset] then (st, false) else if startB t [mHtml] then (htmlM st t, false) else if startB t [mBody] then ({ insM st t 0 with mode := 6 }, false) else if endB t [nTemplate] then headM st t else if belB t then (remM (ownM (pushM st) t), false) else if strangeB t then (st, false) else if endB t [mHead] then (st, false) else ({ insM st (impTok mBody) 0 with mode := 6 }, true)) := Lib.hid (by unfold aftHeadM; rw [if_neg k5, if_neg k4, if_neg k1])
        clear k5 k4 k1
        unfold Tok.val Tok.cells
        go_enter Tryz.func257, Tryz.ntmps257
        go_wp2_with fail
        refine Calls.mono (hStart _ t _ 2 [mHead, mFrameset] (by decide) (by exact Strs.mk_ _ (by simp))) ?_
        rintro e w1 ⟨rfl, hb1⟩
        have hB1 := below_step (below_alloc hb0 _) hb1
        have B1 := (B0.alloc _).below hb1
        have T1 := B1.tok
        clear b0 b1 b2 b3 b4 b5 b6 b7 b8
        obtain ⟨x1_0, x1_1, x1_2, x1_3, x1_4, x1_5, x1_6, x1_7, x1_8⟩ := T1
        cases hq1 : startB t [mHead, mFrameset]
        · rw [hq1, if_neg (by simp)] at EQ
          clear hq1
          go_wp2_with fail
          refine Calls.mono (hStart _ t _ 1 [mHtml] (by decide) (by exact Strs.mk_ _ (by simp))) ?_
          rintro e w2 ⟨rfl, hb2⟩
          have hB2 := below_step (below_alloc hB1 _) hb2
          have B2 := (B1.alloc _).below hb2
          have T2 := B2.tok
          clear x1_0 x1_1 x1_2 x1_3 x1_4 x1_5 x1_6 x1_7 x1_8
          obtain ⟨x2_0, x2_1, x2_2, x2_3, x2_4, x2_5, x2_6, x2_7, x2_8⟩ := T2
          cases hq2 : startB t [mHtml]
          · rw [hq2, if_neg (by simp)] at EQ
            clear hq2
            go_wp2_with fail
            refine Calls.mono (hStart _ t _ 1 [mBody] (by decide) (by exact Strs.mk_ _ (by simp))) ?_
            rintro e w3 ⟨rfl, hb3⟩
            have hB3 := below_step (below_alloc hB2 _) hb3
            have B3 := (B2.alloc _).below hb3
            have T3 := B3.tok
            clear x2_0 x2_1 x2_2 x2_3 x2_4 x2_5 x2_6 x2_7 x2_8
            obtain ⟨x3_0, x3_1, x3_2, x3_3, x3_4, x3_5, x3_6, x3_7, x3_8⟩ := T3
            cases hq3 : startB t [mBody]
            · rw [hq3, if_neg (by simp)] at EQ
              clear hq3
              go_wp2_with fail
              refine Calls.mono (hEnd _ t _ 1 [nTemplate] (by decide) (by exact Strs.mk_ _ (by simp))) ?_
              rintro e w4 ⟨rfl, hb4⟩
              have hB4 := below_step (below_alloc hB3 _) hb4
              have B4 := (B3.alloc _).below hb4
              have T4 := B4.tok
              clear x3_0 x3_1 x3_2 x3_3 x3_4 x3_5 x3_6 x3_7 x3_8
              obtain ⟨x4_0, x4_1, x4_2, x4_3, x4_4, x4_5, x4_6, x4_7, x4_8⟩ := T4
              cases hq4 : endB t [nTemplate]
              · rw [hq4, if_neg (by simp)] at EQ
                clear hq4
                go_wp2_with fail
                refine Calls.mono (hBelongs _ t) ?_
                rintro e w5 ⟨rfl, hb5⟩
                have hB5 := below_step hB4 hb5
                have B5 := B4.below hb5
                have T5 := B5.tok
                clear x4_0 x4_1 x4_2 x4_3 x4_4 x4_5 x4_6 x4_7 x4_8
                obtain ⟨x5_0, x5_1, x5_2, x5_3, x5_4, x5_5, x5_6, x5_7, x5_8⟩ := T5
                cases hq5 : belB t
                · rw [hq5, if_neg (by simp)] at EQ
                  clear hq5
                  go_wp2_with fail
                  refine Calls.mono (hStrange _ t) ?_
                  rintro e w6 ⟨rfl, hb6⟩
                  have hB6 := below_step hB5 hb6
                  have B6 := B5.below hb6
                  have T6 := B6.tok
                  clear x5_0 x5_1 x5_2 x5_3 x5_4 x5_5 x5_6 x5_7 x5_8
                  obtain ⟨x6_0, x6_1, x6_2, x6_3, x6_4, x6_5, x6_6, x6_7, x6_8⟩ := T6
                  cases hq6 : strangeB t
                  · rw [hq6, if_neg (by simp)] at EQ
                    clear hq6
                    go_wp2_with fail
                    refine Calls.mono (hEnd _ t _ 1 [mHead] (by decide) (by exact Strs.mk_ _ (by simp))) ?_
                    rintro e w7 ⟨rfl, hb7⟩
                    have hB7 := below_step (below_alloc hB6 _) hb7
                    have B7 := (B6.alloc _).below hb7
                    have T7 := B7.tok
                    clear x6_0 x6_1 x6_2 x6_3 x6_4 x6_5 x6_6 x6_7 x6_8
                    obtain ⟨x7_0, x7_1, x7_2, x7_3, x7_4, x7_5, x7_6, x7_7, x7_8⟩ := T7
                    cases hq7 : endB t [mHead]
                    · rw [hq7, if_neg (by simp)] at EQ
                      clear hq7
                      go_wp2_with fail
                      refine ((O.out _ hB7).imp _).mono ?_
                      rintro e v1 ⟨rfl, c1, H1, m1⟩
                      go_wp2_with fail
                      refine (bSet H1 6).mono ?_
                      rintro e v2 ⟨rfl, c2, H2, m2⟩
                      go_wp2_with fail
                      go_ret
                      exact StepB.mk EQ.out ⟨rfl, c2, H2, m1.trans m2⟩
                    · rw [hq7, if_pos rfl] at EQ
                      clear hq7
                      go_wp2_with fail
                      go_ret
                      exact StepB.mk EQ.out ⟨rfl, c, (O.out _ hB7).rep, Mv.of_below hB7⟩
                  · rw [hq6, if_pos rfl] at EQ
                    clear hq6
                    go_wp2_with fail
                    go_ret
                    exact StepB.mk EQ.out ⟨rfl, c, (O.out _ hB6).rep, Mv.of_below hB6⟩
                · rw [hq5, if_pos rfl] at EQ
                  have AX := Lib.hid (AB.out hq5 _ hB5)
                  clear hq5
                  have hb0n : Below (w.alloc (.cells t.cells.toArray 24)).heap.size (w.alloc (.cells t.cells.toArray 24)) w5 := below_step (below_step (below_alloc (below_step (below_alloc (below_step (below_alloc (below_step (below_alloc (Below.refl _ _) _) hb1) _) hb2) _) hb3) _) hb4) hb5
                  go_wp2_with (first | (go_at_call 31; refine AX.out.1.1.mono ?_; rintro e v0 ⟨rfl, rfl⟩) | (go_at_call 36; refine AX.out.1.2.mono ?_; rintro e v0 ⟨rfl, rfl⟩))
                  refine AX.out.2.mono ?_
                  rintro e v1 ⟨rfl, c1, H1, m1, C1⟩
                  have FL := Lib.hid (bFail0 H1)
                  have C1H := Lib.hid C1
                  have HB1 : HB v1 w.heap.size 24 t.cells := BOX.out _ _ ((Mv.of_below hb0n).trans m1)
                  obtain ⟨y0, y1, y2, y3, y4, y5, y6, y7, y8⟩ := HB1.tok
                  clear C1
                  go_wp2_with (go_at_call 18; refine FL.out.mono ?_; rintro e v2 ⟨rfl, rfl⟩)
                  refine C1H.out.mono ?_
                  rintro e v2 ⟨rfl, c2, H2, m2, S2, D2, R2⟩
                  have S2H := Lib.hid S2
                  have D2H := Lib.hid D2
                  have R2H := Lib.hid R2
                  clear S2 D2 R2
                  go_wp2_with (first | (go_at_call 31; refine S2H.out.mono ?_; rintro e v3 ⟨rfl, rfl⟩) | (go_at_call 36; refine D2H.out.mono ?_; rintro e v3 ⟨rfl, rfl⟩))
                  refine R2H.out.mono ?_
                  rintro e v3 ⟨rfl, c3, H3, m3⟩
                  go_wp2_with fail
                  go_ret
                  exact StepB.mk EQ.out ⟨rfl, c3, H3, (Mv.of_below hB5).trans m3⟩
              · rw [hq4, if_pos rfl] at EQ
                clear hq4
                go_wp2_with fail
                refine (HD.out _ hB4).mono ?_
                rintro e v1 ⟨rfl, c1, H1, m1⟩
                go_wp2_with fail
                go_ret
                exact StepB.mk EQ.out ⟨rfl, c1, H1, m1⟩
            · rw [hq3, if_pos rfl] at EQ
              clear hq3
              go_wp2_with fail
              refine (O.out _ hB3).ins.mono ?_
              rintro e v1 ⟨rfl, c1, H1, m1⟩
              go_wp2_with fail
              refine (bSet H1 6).mono ?_
              rintro e v2 ⟨rfl, c2, H2, m2⟩
              go_wp2_with fail
              go_ret
              exact StepB.mk EQ.out ⟨rfl, c2, H2, m1.trans m2⟩
          · rw [hq2, if_pos rfl] at EQ
            clear hq2
            go_wp2_with fail
            refine (OH.out _ hB2).mono ?_
            rintro e v1 ⟨rfl, c1, H1, m1⟩
            go_wp2_with fail
            go_ret
            exact StepB.mk EQ.out ⟨rfl, c1, H1, m1⟩
        · rw [hq1, if_pos rfl] at EQ
          clear hq1
          go_wp2_with fail
          go_ret
          exact StepB.mk EQ.out ⟨rfl, c, (O.out _ hB1).rep, Mv.of_below hB1⟩
end Go.Proofs.YtjmlkmlbhfkhbaaGreatDoor
namespace Go.Proofs.YtjmlkmlbhfkhbaaGreatDoor
open Go Go.RowKit

abbrev eofT : Tok := tagTok 8 ⟨#[]⟩
abbrev cmT : Tok := { tagTok 4 ⟨#[]⟩ with text := ⟨#[99]⟩ }
def cA : St := doesM 20 st0 eofT
def cB1 : St := doesM 20 st0 (tagTok 1 mHtml)
def cB2 : St := doesM 20 cB1 cmT
def cB3 : St := doesM 20 cB2 (tagTok 2 mHtml)
def cB4 : St := doesM 20 cB3 (tagTok 2 nTitle)
def cB5 : St := { cB4 with ask := none }
def cC1 : St := doesM 20 st0 (tagTok 2 mHtml)
def cC2 : St := doesM 20 cC1 (tagTok 2 mHead)
def cC3 : St := doesM 20 cC2 (tagTok 2 nTemplate)
def cC4 : St := (headM cC3 (tagTok 3 nTemplate)).1

theorem inv0 : Inv 1 st0 := ⟨Wf.st0, .start (.inl rfl) rfl rfl, .inr ⟨rfl, rfl⟩⟩
theorem sm_tag {k : Int} {nm : Str} (h : nm.size ≤ 300) : TkSm (tagTok k nm) := ⟨h, Nat.zero_le _, Nat.zero_le _⟩
theorem sm_cm : TkSm cmT := ⟨by decide, by decide, by decide⟩
theorem iA : Inv 20061 cA := inv0.does (sm_tag (by decide)) 20
theorem iB1 : Inv 20061 cB1 := inv0.does (sm_tag (by decide)) 20
theorem iB2 : Inv 40121 cB2 := iB1.does sm_cm 20
theorem iB3 : Inv 60181 cB3 := iB2.does (sm_tag (by decide)) 20
theorem iB4 : Inv 80241 cB4 := iB3.does (sm_tag (by decide)) 20
theorem iC1 : Inv 20061 cC1 := inv0.does (sm_tag (by decide)) 20
theorem iC2 : Inv 40121 cC2 := iC1.does (sm_tag (by decide)) 20
theorem iC3 : Inv 60181 cC3 := iC2.does (sm_tag (by decide)) 20

theorem fA : cA.quirks = true ∧ cA.mode = 6 ∧ cA.stk.length = 2 := by decide +kernel
theorem fB : cB5.quirks = false ∧ cB5.mode = 7 ∧ cB5.ns.length = 6 := by decide +kernel
theorem fB0 : (cB5.ns[0]?).map (·.kids) = some [1, 2, 3] := by decide +kernel
theorem fB2 : (cB5.ns[2]?).map (·.kind) = some 5 := by decide +kernel
theorem fBask : cB4.ask = some (1, nTitle) := by
  have h : cB4.ask.map (fun p => (p.1, p.2.data.toList)) = some (1, nTitle.data.toList) := by decide +kernel
  cases ha : cB4.ask with
  | none => rw [ha] at h; cases h
  | some p =>
    obtain ⟨s, ⟨⟨n⟩⟩⟩ := p
    rw [ha] at h
    simp at h
    obtain ⟨rfl, rfl⟩ := h
    rfl
theorem fC3 : cC3.mode = 15 ∧ cC3.fmt = [-1] ∧ cC3.modes = [15] ∧ cC3.stk.length = 3 := by decide +kernel
theorem fC3n : (cC3.ns.all fun n => decide (n.name.size ≤ 1000)) = true := by decide +kernel
theorem fC3t : ∃ (l : List OpE) (n : Int), cC3.stk = l ++ [⟨n, 0, nTemplate⟩] ∧ l.length = 2 := by
  have h : (cC3.stk.map (fun o => (o.space, o.name.data.toList)))[2]? = some (0, nTemplate.data.toList) := by decide +kernel
  have hl := fC3.2.2.2
  match hs : cC3.stk, hl with
  | [a, b, ⟨n, s, ⟨⟨nm⟩⟩⟩], _ =>
    rw [hs] at h
    simp at h
    obtain ⟨rfl, rfl⟩ := h
    exact ⟨[a, b], n, rfl, rfl⟩
theorem fC4 : cC4.mode = 3 ∧ 3 < cC4.ns.length := by decide +kernel
theorem fC43 : (cC4.ns[3]?).map (·.content) = some 4 := by decide +kernel
theorem fC4s : (cC4.ns.all fun n => decide (n.attrs.length ≤ 1000) && decide (n.kids.length ≤ 1000) && decide (n.text.size ≤ 1000)) = true ∧ cC4.ns.length ≤ 1000 := by decide +kernel
theorem szC4 : Sz 1000 cC4 := by
  refine ⟨fC4s.2, by have := fC4.2; omega, fun i n hi => ?_⟩
  have := List.all_eq_true.1 fC4s.1 n (List.mem_of_getElem? hi)
  simp at this
  exact ⟨this.1.1, this.1.2, this.2⟩
end Go.Proofs.YtjmlkmlbhfkhbaaGreatDoor
namespace Go.Proofs.YtjmlkmlbhfkhbaaGreatDoor
open Go Go.RowKit

theorem ownB_cases0 {m : Int} (h : ownB m = true) : m = 0 ∨ m = 1 ∨ m = 2 ∨ m = 3 ∨ m = 4 ∨ m = 5 ∨ m = 7 := by
  unfold ownB at h
  simp at h
  omega

def rk (m : Int) : Nat := if m = 0 then 5 else if m = 1 then 4 else if m = 2 then 3 else if m = 3 then 2 else if m = 4 then 3 else if m = 5 then 1 else if m = 7 then 4 else 0

theorem eof_start (ns : List Str) : startB eofT ns = false := rfl
theorem eof_end_ (ns : List Str) : endB eofT ns = false := rfl
theorem eof_strange : strangeB eofT = false := rfl
theorem eof_bel : belB eofT = false := rfl

theorem eof_step {N : Nat} {s : St} (h : Inv N s) (ho : ownB s.mode = true) :
    (stepM s eofT).2 = true ∧ rk (stepM s eofT).1.mode < rk s.mode ∧ (ownB (stepM s eofT).1.mode = true ∨ (stepM s eofT).1.mode = 6) := by
  rcases ownB_cases0 ho with e | e | e | e | e | e | e
  · have E : stepM s eofT = ({ s with quirks := true, mode := 1 }, true) := by unfold stepM; rw [if_pos e]; rfl
    rw [E, e]; exact ⟨rfl, (show rk 1 < rk 0 by decide), .inl rfl⟩
  · have E : stepM s eofT = ({ insM s (impTok mHtml) 0 with mode := 2 }, true) := by unfold stepM; rw [if_neg (by omega), if_pos e]; rfl
    rw [E, e]; exact ⟨rfl, (show rk 2 < rk 1 by decide), .inl rfl⟩
  · have E : stepM s eofT = ({ insM s (impTok mHead) 0 with head := s.ns.length, mode := 3 }, true) := by unfold stepM; rw [if_neg (by omega), if_neg (by omega), if_pos e]; rfl
    rw [E, e]; exact ⟨rfl, (show rk 3 < rk 2 by decide), .inl rfl⟩
  · have E : stepM s eofT = ({ s with stk := s.stk.dropLast, mode := 5 }, true) := by unfold stepM; rw [if_neg (by omega), if_neg (by omega), if_neg (by omega), if_pos e]; rfl
    rw [E, e]; exact ⟨rfl, (show rk 5 < rk 3 by decide), .inl rfl⟩
  · have E : stepM s eofT = ({ s with stk := s.stk.dropLast, mode := 3 }, true) := by
      unfold stepM; rw [if_neg (by omega), if_neg (by omega), if_neg (by omega), if_neg (by omega), if_pos e]; rfl
    rw [E, e]; exact ⟨rfl, (show rk 3 < rk 4 by decide), .inl rfl⟩
  · have E : stepM s eofT = ({ insM s (impTok mBody) 0 with mode := 6 }, true) := by
      unfold stepM; rw [if_neg (by omega), if_neg (by omega), if_neg (by omega), if_neg (by omega), if_neg (by omega), if_pos e]; rfl
    rw [E, e]; exact ⟨rfl, (show rk 6 < rk 5 by decide), .inr rfl⟩
  · have E : stepM s eofT = ({ s with stk := s.stk.dropLast, mode := s.back }, true) := by
      unfold stepM; rw [if_neg (by omega), if_neg (by omega), if_neg (by omega), if_neg (by omega), if_neg (by omega), if_neg (by omega), if_pos e]; rfl
    have hb : s.back = 3 ∨ s.back = 4 ∨ s.back = 5 := by
      cases h.shp with
      | start a => omega
      | html a _ => omega
      | head a b hr => rcases hr with ⟨h', -⟩ | ⟨h', -⟩ | ⟨h', -⟩ <;> omega
      | raw a b l r hm hr => rcases hr with ⟨h', -⟩ | ⟨h', -⟩ | ⟨h', -⟩ <;> omega
      | body _ _ _ a => omega
      | tmpl a => omega
    rw [E, e]
    refine ⟨rfl, ?_, ?_⟩
    · show rk s.back < _
      rcases hb with h | h | h <;> rw [h] <;> decide
    · show ownB s.back = true ∨ s.back = 6
      rcases hb with h | h | h <;> rw [h] <;> exact .inl rfl

theorem eof_does : ∀ (n : Nat) {N : Nat} {s : St}, Inv N s → (ownB s.mode = true ∨ s.mode = 6) → rk s.mode ≤ n → (doesM n s eofT).mode = 6
  | 0, N, s, h, ho, hr => by
    rcases ho with ho | ho
    · have := (eof_step h ho).2.1; omega
    · exact ho
  | n + 1, N, s, h, ho, hr => by
    rcases ho with ho | ho
    · obtain ⟨h1, h2, h3⟩ := eof_step h ho
      unfold doesM
      rw [if_pos ho, if_pos h1]
      exact eof_does n (h.step (sm_tag (by decide))) h3 (by omega)
    · unfold doesM
      rw [ho, if_neg (by decide)]
      exact ho

theorem Shp.mode_cases {s : St} (h : Shp s) (hm : s.mode ≠ 15) : ownB s.mode = true ∨ s.mode = 6 := by
  cases h with
  | start a => left; rcases a with a | a <;> rw [a] <;> rfl
  | html a hm => left; rw [hm]; rfl
  | head a b hr => left; rcases hr with ⟨h', -⟩ | ⟨h', -⟩ | ⟨h', -⟩ <;> rw [h'] <;> rfl
  | raw a b l r hm hr => left; rw [hm]; rfl
  | body a b d hm => exact .inr hm
  | tmpl a => exact absurd a hm

/-- The state at the end: a body, which is open. -/
theorem eof_body {N : Nat} {s : St} (h : Inv N s) (hm : s.mode ≠ 15) : ∃ a b d : Nat, (doesM 20 s eofT).mode = 6 ∧ (doesM 20 s eofT).stk = [⟨(a : Int), 0, mHtml⟩, ⟨(d : Int), 0, mBody⟩] ∧
    Trunk (doesM 20 s eofT).ns a [(b : Int), (d : Int)] ∧ IsEl (doesM 20 s eofT).ns b mHead ∧ IsEl (doesM 20 s eofT).ns d mBody := by
  have hc := h.shp.mode_cases hm
  have hr : rk s.mode ≤ 20 := by unfold rk; (repeat' split) <;> omega
  have h6 := eof_does 20 h hc hr
  have hs := (h.does (sm_tag (k := 8) (nm := ⟨#[]⟩) (by decide)) 20).shp
  generalize doesM 20 s eofT = s' at *
  cases hs with
  | start a => omega
  | html a hm => omega
  | head a b hr => rcases hr with ⟨h', -⟩ | ⟨h', -⟩ | ⟨h', -⟩ <;> omega
  | raw a b l r hm hr => omega
  | body a b d hm hs ht hb hd => exact ⟨a, b, d, hm, hs, ht, hb, hd⟩
  | tmpl a => omega
end Go.Proofs.YtjmlkmlbhfkhbaaGreatDoor
