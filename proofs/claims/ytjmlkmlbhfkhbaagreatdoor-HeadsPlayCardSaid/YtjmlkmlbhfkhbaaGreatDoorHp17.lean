/-
  heads.beforeHead (255).
  heads.text (258), template (170) and own (136).
  heads.own (136).
-/
import Derived.Test.YtjmlkmlbhfkhbaaGreatDoorHp16
import Derived.Test.YtjmlkmlbhfkhbaaGreatDoorHp15
set_option linter.unusedSimpArgs false
set_option linter.unusedVariables false
namespace Go.Proofs.YtjmlkmlbhfkhbaaGreatDoor
open Go Go.RowKit

/-- The builder's HTML, where no template is open and something is. -/
theorem html_of {w : World} {c : Col} {h : Hd} {st : St} (H : BRep w c h st) {N : Nat} (wf : Wf N st) (hN : N ≤ 9000000) (hs : st.stk.length ≤ 100) (h0 : 0 < st.stk.length) (hno : lastOf st.stk [nTemplate] < 0) (t : Tok) (ht : TkOk w c t) {W : World} (hb : Below w.heap.size w W) :
    Calls Tryz.prog 27 #[.pointer (some ⟨h.b, 0, none⟩), t.val] W (OkB h (htmlM st t) (.tuple #[]) w c) := by
  obtain ⟨o, ho⟩ : ∃ o, st.stk[0]? = some o := ⟨_, List.getElem?_eq_getElem h0⟩
  obtain ⟨a, n, e1, e2, e3, e4, e5⟩ := wf.op 0 o ho
  have ha : (atOf st.stk 0).toNat = a := by
    unfold atOf
    rw [if_pos (by decide)]
    simp [ho, e1]
  have E : htmlM st t = moreM st a n t.attrs := by
    unfold htmlM
    rw [if_neg (by omega), ha, e2]
  rw [E]
  exact (bHTML (H.loc hb) wf.sz (by omega) (by omega) wf.op hno ho e1 e2 e3 t (ht.at_.loc hb) (by have := ht.attrs; omega)).mono fun e w2 ho => ho.after hb

set_option maxRecDepth 100000 in
set_option maxHeartbeats 4000000 in
theorem hBefHead {w : World} {c : Col} {h : Hd} {st : St} (H : BRep w c h st) {N : Nat} (wf : Wf N st) (hN : N ≤ 9000000) (hs : st.stk.length ≤ 100) (h0 : 0 < st.stk.length) (hno : lastOf st.stk [nTemplate] < 0) (t : Tok) (ht : TkOk w c t) :
    Calls Tryz.prog 255 #[.pointer (some ⟨h.b, 0, none⟩), t.val] w (StepB h (befHeadM st t) w c) := by
  have O := Lib.hid (fun (W : World) (hb : Below w.heap.size w W) => ops_of H wf hN hs t ht hb)
  have OH := Lib.hid (fun (W : World) (hb : Below w.heap.size w W) => html_of H wf hN hs h0 hno t ht hb)
  have hb0 : Below w.heap.size w (w.alloc (.cells t.cells.toArray 24)) := below_alloc (Below.refl _ _) _
  have B0 := HB.new w 24 t.cells
  obtain ⟨b0, b1, b2, b3, b4, b5, b6, b7, b8⟩ := B0.tok
  clear H wf ht hs h0 hno
  by_cases k4 : t.kind = 4
  · have EQ : Hid (befHeadM st t = (cmM st t.text (plIx st.ns (tgtIx st)), false)) := Lib.hid (by unfold befHeadM; rw [if_pos k4])
    have k4' : (t.kind == 4) = true := by simp [k4]
    clear k4
    unfold Tok.val Tok.cells
    go_enter Tryz.func255, Tryz.ntmps255
    go_wp2_with fail
    refine (O.out _ hb0).com1.mono ?_
    rintro e w2 ⟨rfl, c2, H2, m2⟩
    go_wp2_with fail
    go_ret
    exact StepB.mk EQ.out ⟨rfl, c2, H2, m2⟩
  · have k4' : (t.kind == 4) = false := by simp [k4]
    by_cases k1 : t.kind = 1
    · have EQ : Hid (befHeadM st t = (st, false)) := Lib.hid (by unfold befHeadM; rw [if_neg k4, if_pos k1])
      have k1' : (t.kind == 1) = true := by simp [k1]
      clear k4 k1
      unfold Tok.val Tok.cells
      go_enter Tryz.func255, Tryz.ntmps255
      go_wp2_with fail
      go_ret
      exact StepB.mk EQ.out ⟨rfl, c, (O.out _ hb0).rep, Mv.of_below hb0⟩
    · have k1' : (t.kind == 1) = false := by simp [k1]
      by_cases k5 : t.kind = 5
      · have EQ : Hid (befHeadM st t = (st, false)) := Lib.hid (by unfold befHeadM; rw [if_neg k4, if_neg k1, if_pos k5])
        have k5' : (t.kind == 5) = true := by simp [k5]
        clear k4 k1 k5
        unfold Tok.val Tok.cells
        go_enter Tryz.func255, Tryz.ntmps255
        go_wp2_with fail
        go_ret
        exact StepB.mk EQ.out ⟨rfl, c, (O.out _ hb0).rep, Mv.of_below hb0⟩
      · have k5' : (t.kind == 5) = false := by simp [k5]
        have EQ : Hid (befHeadM st t = if strangeB t then (st, false) else if startB t [mHtml] then (htmlM st t, false) else if startB t [mHead] then ({ insM st t 0 with head := st.ns.length, mode := 3 }, false)
          else ({ insM st (impTok mHead) 0 with head := st.ns.length, mode := 3 }, true)) := Lib.hid (by unfold befHeadM; rw [if_neg k4, if_neg k1, if_neg k5])
        clear k4 k1 k5
        unfold Tok.val Tok.cells
        go_enter Tryz.func255, Tryz.ntmps255
        go_wp2_with fail
        refine Calls.mono (hStrange _ t) ?_
        rintro e w1 ⟨rfl, hb1⟩
        have hB1 := below_step hb0 hb1
        have B1 := B0.below hb1
        obtain ⟨d0, d1, d2, d3, d4, d5, d6, d7, d8⟩ := B1.tok
        cases hS : strangeB t
        · rw [hS, if_neg (by simp)] at EQ
          clear hS
          go_wp2_with fail
          refine Calls.mono (hStart _ t _ 1 [mHtml] (by decide) (by exact Strs.mk_ _ (by simp))) ?_
          rintro e w2 ⟨rfl, hb2⟩
          have hB2 := below_step (below_alloc hB1 _) hb2
          have B2 := (B1.alloc _).below hb2
          obtain ⟨g0, g1, g2, g3, g4, g5, g6, g7, g8⟩ := B2.tok
          clear b0 b1 b2 b3 b4 b5 b6 b7 b8 d0 d1 d2 d3 d4 d5 d6 d7 d8
          cases hH : startB t [mHtml]
          · rw [hH, if_neg (by simp)] at EQ
            clear hH
            go_wp2_with fail
            refine Calls.mono (hStart _ t _ 1 [mHead] (by decide) (by exact Strs.mk_ _ (by simp))) ?_
            rintro e w3 ⟨rfl, hb3⟩
            have hB3 := below_step (below_alloc hB2 _) hb3
            obtain ⟨d0, d1, d2, d3, d4, d5, d6, d7, d8⟩ := ((B2.alloc _).below hb3).tok
            clear g0 g1 g2 g3 g4 g5 g6 g7 g8
            cases hD : startB t [mHead]
            · rw [hD, if_neg (by simp)] at EQ
              clear hD
              go_wp2_with fail
              refine ((O.out _ hB3).imp _).mono ?_
              rintro e w4 ⟨rfl, c4, H4, m4⟩
              go_wp2_with fail
              refine (bSetHead H4 _).mono ?_
              rintro e w5 ⟨rfl, c5, H5, m5⟩
              go_wp2_with fail
              refine (bSet H5 3).mono ?_
              rintro e w6 ⟨rfl, c6, H6, m6⟩
              go_wp2_with fail
              go_ret
              exact StepB.mk EQ.out ⟨rfl, c6, H6, m4.trans (m5.trans m6)⟩
            · rw [hD, if_pos rfl] at EQ
              clear hD
              go_wp2_with fail
              refine (O.out _ hB3).ins.mono ?_
              rintro e w4 ⟨rfl, c4, H4, m4⟩
              go_wp2_with fail
              refine (bSetHead H4 _).mono ?_
              rintro e w5 ⟨rfl, c5, H5, m5⟩
              go_wp2_with fail
              refine (bSet H5 3).mono ?_
              rintro e w6 ⟨rfl, c6, H6, m6⟩
              go_wp2_with fail
              go_ret
              exact StepB.mk EQ.out ⟨rfl, c6, H6, m4.trans (m5.trans m6)⟩
          · rw [hH, if_pos rfl] at EQ
            clear hH
            go_wp2_with fail
            refine (OH.out _ hB2).mono ?_
            rintro e w3 ⟨rfl, c3, H3, m3⟩
            go_wp2_with fail
            go_ret
            exact StepB.mk EQ.out ⟨rfl, c3, H3, m3⟩
        · rw [hS, if_pos rfl] at EQ
          clear hS
          go_wp2_with fail
          go_ret
          exact StepB.mk EQ.out ⟨rfl, c, (O.out _ hB1).rep, Mv.of_below hB1⟩
end Go.Proofs.YtjmlkmlbhfkhbaaGreatDoor
namespace Go.Proofs.YtjmlkmlbhfkhbaaGreatDoor
open Go Go.RowKit

set_option maxRecDepth 100000 in
set_option maxHeartbeats 4000000 in
theorem hText {w : World} {c : Col} {h : Hd} {st : St} (H : BRep w c h st) {N : Nat} (wf : Wf N st) (hN : N ≤ 9000000) (hs : st.stk.length ≤ 100) (t : Tok) (ht : TkOk w c t) :
    Calls Tryz.prog 258 #[.pointer (some ⟨h.b, 0, none⟩), t.val] w (StepB h (txtM st t) w c) := by
  have O := Lib.hid (fun (W : World) (hb : Below w.heap.size w W) => ops_of H wf hN hs t ht hb)
  have hb0 : Below w.heap.size w (w.alloc (.cells t.cells.toArray 24)) := below_alloc (Below.refl _ _) _
  have B0 := HB.new w 24 t.cells
  have BOX : Hid (∀ W C, Mv (Pr h) (w.alloc (.cells t.cells.toArray 24)) c W C → HB W w.heap.size 24 t.cells) := Lib.hid fun W C hm => B0.mvk hm (fun e => H.sd (by unfold Pr at e; rw [← e, H.gd _ (Nat.le_refl _)]))
  obtain ⟨b0, b1, b2, b3, b4, b5, b6, b7, b8⟩ := B0.tok
  have hl1 : st.stk.length ≤ 1000000 := by omega
  have ST := Lib.hid (bStack (H.loc hb0))
  have PO := Lib.hid (sPop (H.loc hb0) hl1)
  clear H wf ht hs hl1
  by_cases k : t.kind = 5 ∨ t.kind = 6 ∨ t.kind = 7
  · have EQ : Hid (txtM st t = (chM st t.text, false)) := Lib.hid (by unfold txtM; rw [if_pos k])
    rcases k with k | k | k
    · have k5' : (t.kind == 5) = true := by rw [k]; rfl
      clear k
      unfold Tok.val Tok.cells
      go_enter Tryz.func258, Tryz.ntmps258
      go_wp2_with fail
      refine (O.out _ hb0).chars.mono ?_
      rintro e w2 ⟨rfl, c2, H2, m2⟩
      go_wp2_with fail
      go_ret
      exact StepB.mk EQ.out ⟨rfl, c2, H2, m2⟩
    · have k5' : (t.kind == 5) = false := by rw [k]; rfl
      have k7' : (t.kind == 7) = false := by rw [k]; rfl
      have k6' : (t.kind == 6) = true := by rw [k]; rfl
      clear k
      unfold Tok.val Tok.cells
      go_enter Tryz.func258, Tryz.ntmps258
      go_wp2_with fail
      refine (O.out _ hb0).chars.mono ?_
      rintro e w2 ⟨rfl, c2, H2, m2⟩
      go_wp2_with fail
      go_ret
      exact StepB.mk EQ.out ⟨rfl, c2, H2, m2⟩
    · have k5' : (t.kind == 5) = false := by rw [k]; rfl
      have k7' : (t.kind == 7) = true := by rw [k]; rfl
      clear k
      unfold Tok.val Tok.cells
      go_enter Tryz.func258, Tryz.ntmps258
      go_wp2_with fail
      refine (O.out _ hb0).chars.mono ?_
      rintro e w2 ⟨rfl, c2, H2, m2⟩
      go_wp2_with fail
      go_ret
      exact StepB.mk EQ.out ⟨rfl, c2, H2, m2⟩
  · have EQ : Hid (txtM st t = ({ st with stk := st.stk.dropLast, mode := st.back }, decide (t.kind = 8))) := Lib.hid (by unfold txtM; rw [if_neg k])
    have k5' : (t.kind == 5) = false := by simp; omega
    have k6' : (t.kind == 6) = false := by simp; omega
    have k7' : (t.kind == 7) = false := by simp; omega
    clear k
    unfold Tok.val Tok.cells
    go_enter Tryz.func258, Tryz.ntmps258
    go_wp2_with (go_at_call 31; refine ST.out.mono ?_; rintro e w2 ⟨rfl, rfl⟩)
    refine PO.out.mono ?_
    rintro e w3 ⟨rfl, c3, H3, m3⟩
    have BK := Lib.hid (bBack H3)
    go_wp2_with (go_at_call 34; refine BK.out.mono ?_; rintro e w4 ⟨rfl, rfl⟩)
    refine (bSet H3 _).mono ?_
    rintro e w5 ⟨rfl, c5, H5, m5⟩
    obtain ⟨d0, d1, d2, d3, d4, d5, d6, d7, d8⟩ := (BOX.out _ _ (m3.trans m5)).tok
    go_wp2_with fail
    go_ret
    exact StepB.mk (EQ.out.trans (by congr 1)) ⟨rfl, c5, H5, (Mv.of_below hb0).trans (m3.trans m5)⟩

/-- What template and leave do where a template is open. -/
structure Lv (h : Hd) (st : St) (w : World) (c : Col) : Prop where
  th : ∀ W C, BRep W C h st → Mv (Pr h) w c W C → Calls Tryz.prog 195 #[.pointer (some ⟨h.s, 0, none⟩)] W (OkB h st (.tuple #[]) W C)
  lv : ∀ W C, BRep W C h st → Mv (Pr h) w c W C → Calls Tryz.prog 196 #[.pointer (some ⟨h.b, 0, none⟩)] W (OkB h (leaveM st) (.tuple #[]) W C)

set_option maxRecDepth 100000 in
set_option maxHeartbeats 4000000 in
theorem hTmpl {w : World} {c : Col} {h : Hd} {st : St} (H : BRep w c h st) {N : Nat} (wf : Wf N st) (hN : N ≤ 9000000) (hs : st.stk.length ≤ 100) (hf : st.fmt.length < 64) (hml : st.modes.length ≤ 1000000) (t : Tok) (ht : TkOk w c t)
    (LV : 0 ≤ lastOf st.stk [nTemplate] → Lv h st w c) :
    Calls Tryz.prog 170 #[.pointer (some ⟨h.b, 0, none⟩), t.val] w (OkB h (tmplM st t) (.tuple #[]) w c) := by
  have O := Lib.hid (fun (W : World) (hb : Below w.heap.size w W) => ops_of H wf hN hs t ht hb)
  have hb0 : Below w.heap.size w (w.alloc (.cells t.cells.toArray 24)) := below_alloc (Below.refl _ _) _
  obtain ⟨b0, b1, b2, b3, b4, b5, b6, b7, b8⟩ := (HB.new w 24 t.cells).tok
  have OP := Lib.hid (bOpen (H.loc hb0) wf.sz (by omega) (by omega) wf.op nTemplate)
  have LVH := Lib.hid LV
  have HF := Lib.hid hf
  have HM := Lib.hid hml
  clear H wf ht hs hf hml LV
  by_cases k : t.kind = 2
  · have EQ : Hid (tmplM st t = { insM st t 0 with fmt := st.fmt ++ [-1], mode := 15, modes := st.modes ++ [15] }) := Lib.hid (by unfold tmplM; rw [if_pos k])
    rw [EQ.out]
    clear EQ
    have k' : (t.kind == 2) = true := by simp [k]
    clear k
    unfold Tok.val Tok.cells
    go_enter Tryz.func170, Tryz.ntmps170
    go_wp2_with fail
    refine (O.out _ hb0).ins.mono ?_
    rintro e w2 ⟨rfl, c2, H2, m2⟩
    have FM := Lib.hid (bFormats H2)
    go_wp2_with (go_at_call 32; refine FM.out.mono ?_; rintro e w3 ⟨rfl, rfl⟩)
    refine (fMark H2 HF.out).mono ?_
    rintro e w3 ⟨rfl, c3, H3, m3⟩
    have FL := Lib.hid (bFail0 H3)
    go_wp2_with (go_at_call 18; refine FL.out.mono ?_; rintro e w4 ⟨rfl, rfl⟩)
    refine (bSet H3 15).mono ?_
    rintro e w4 ⟨rfl, c4, H4, m4⟩
    go_wp2_with fail
    refine (bModePush H4 HM.out 15).mono ?_
    rintro e w5 ⟨rfl, c5, H5, m5⟩
    go_wp2_with fail
    go_end0
    exact ⟨rfl, c5, H5, m2.trans (m3.trans (m4.trans m5))⟩
  · have k' : (t.kind == 2) = false := by simp [k]
    by_cases ho : 0 ≤ lastOf st.stk [nTemplate]
    · have EQ : Hid (tmplM st t = leaveM st) := Lib.hid (by unfold tmplM; rw [if_neg k, if_pos ho])
      rw [EQ.out]
      clear EQ
      have L := Lib.hid (LVH.out ho)
      rw [show decide (0 ≤ lastOf st.stk [nTemplate]) = true by simpa using ho] at OP
      clear k ho LVH
      unfold Tok.val Tok.cells
      go_enter Tryz.func170, Tryz.ntmps170
      go_wp2_with fail
      refine OP.out.mono ?_
      rintro e w1 ⟨rfl, hb1⟩
      have hB1 := below_step hb0 hb1
      have H1 := (O.out _ hB1).rep
      have ST := Lib.hid (bStack H1)
      go_wp2_with (go_at_call 31; refine ST.out.mono ?_; rintro e w2 ⟨rfl, rfl⟩)
      refine (L.out.th _ _ H1 (Mv.of_below hB1)).mono ?_
      rintro e w3 ⟨rfl, c3, H3, m3⟩
      go_wp2_with fail
      refine (L.out.lv _ _ H3 ((Mv.of_below hB1).trans m3)).mono ?_
      rintro e w4 ⟨rfl, c4, H4, m4⟩
      go_wp2_with fail
      go_end0
      exact ⟨rfl, c4, H4, (Mv.of_below hB1).trans (m3.trans m4)⟩
    · have EQ : Hid (tmplM st t = st) := Lib.hid (by unfold tmplM; rw [if_neg k, if_neg ho])
      rw [EQ.out]
      clear EQ
      rw [show decide (0 ≤ lastOf st.stk [nTemplate]) = false by simpa using ho] at OP
      clear k ho LVH
      unfold Tok.val Tok.cells
      go_enter Tryz.func170, Tryz.ntmps170
      go_wp2_with fail
      refine OP.out.mono ?_
      rintro e w1 ⟨rfl, hb1⟩
      have hB1 := below_step hb0 hb1
      have H1 := (O.out _ hB1).rep
      go_wp2_with fail
      go_end0
      exact ⟨rfl, c, H1, Mv.of_below hB1⟩
end Go.Proofs.YtjmlkmlbhfkhbaaGreatDoor
namespace Go.Proofs.YtjmlkmlbhfkhbaaGreatDoor
open Go Go.RowKit

set_option maxRecDepth 100000 in
set_option maxHeartbeats 4000000 in
theorem hOwn {w : World} {c : Col} {h : Hd} {st : St} (H : BRep w c h st) {N : Nat} (wf : Wf N st) (hN : N ≤ 9000000) (hs : st.stk.length ≤ 100) (hf : st.fmt.length < 64) (hml : st.modes.length ≤ 1000000) (t : Tok) (ht : TkOk w c t)
    (LV : 0 ≤ lastOf st.stk [nTemplate] → Lv h st w c) :
    Calls Tryz.prog 136 #[.pointer (some ⟨h.b, 0, none⟩), t.val] w (OkB h (ownM st t) (.tuple #[]) w c) := by
  have hb0 : Below w.heap.size w (w.alloc (.cells t.cells.toArray 24)) := below_alloc (Below.refl _ _) _
  have LV' : 0 ≤ lastOf st.stk [nTemplate] → Lv h st (w.alloc (.cells t.cells.toArray 24)) c := fun ho => ⟨fun W C a b => (LV ho).th W C a ((Mv.of_below hb0).trans b), fun W C a b => (LV ho).lv W C a ((Mv.of_below hb0).trans b)⟩
  have TM := Lib.hid ((hTmpl (H.loc hb0) wf hN hs hf hml t (ht.loc hb0) LV').mono fun e w2 ho => ho.after hb0)
  have ha : t.attrs.length ≤ 1000 := by have := ht.attrs; omega
  have RW := Lib.hid (fun (W : World) (hb : Below w.heap.size w W) (k : Int) => (bRaw (H.loc hb) wf (by omega) (by omega) t k (ht.at_.loc hb).src ha).mono fun e w2 ho => ho.after hb)
  have ON := Lib.hid ((bOnly (H.loc hb0) wf (by omega) (by omega) t (ht.at_.loc hb0).src ha).mono fun e w2 ho => ho.after hb0)
  clear H wf ht hs hf hml LV LV' ha
  cases n0 : eqS t.name nTemplate
  · cases n1 : eqS t.name nTitle
    · cases n2 : eqS t.name nNoframes
      · cases n3 : eqS t.name nStyle
        · cases n4 : eqS t.name nScript
          · have EQ : Hid (ownM st t = onlyM st t) := Lib.hid (by unfold ownM; simp only [n0, n1, n2, n3, n4]; rfl)
            rw [EQ.out]
            clear EQ
            obtain ⟨b0, b1, b2, b3, b4, b5, b6, b7, b8⟩ := (HB.new w 24 t.cells).tok
            have q0 : (t.name.toList == [116, 101, 109, 112, 108, 97, 116, 101]) = false := (eqS_lit _ _).symm.trans n0
            have q1 : (t.name.toList == [116, 105, 116, 108, 101]) = false := (eqS_lit _ _).symm.trans n1
            have q2 : (t.name.toList == [110, 111, 102, 114, 97, 109, 101, 115]) = false := (eqS_lit _ _).symm.trans n2
            have q3 : (t.name.toList == [115, 116, 121, 108, 101]) = false := (eqS_lit _ _).symm.trans n3
            have q4 : (t.name.toList == [115, 99, 114, 105, 112, 116]) = false := (eqS_lit _ _).symm.trans n4
            clear n0 n1 n2 n3 n4
            unfold Tok.val Tok.cells
            go_enter Tryz.func136, Tryz.ntmps136
            go_wp2_with fail
            refine ON.out.mono ?_
            rintro e w2 ⟨rfl, c2, H2, m2⟩
            go_wp2_with fail
            go_end0
            exact ⟨rfl, c2, H2, m2⟩
          · have EQ : Hid (ownM st t = rawM st t 3) := Lib.hid (by unfold ownM; simp only [n0, n1, n2, n3, n4]; rfl)
            rw [EQ.out]
            clear EQ TM ON n0 n1 n2 n3
            have hn := eqS_eq n4
            clear n4
            obtain ⟨kind, name, text, attrs, aA, acap, dup, self, quirks, frm, to_⟩ := t
            obtain rfl : name = nScript := hn
            obtain ⟨b0, b1, b2, b3, b4, b5, b6, b7, b8⟩ := (HB.new w 24 (⟨kind, nScript, text, attrs, aA, acap, dup, self, quirks, frm, to_⟩ : Tok).cells).tok
            unfold Tok.val at *
            unfold Tok.cells at *
            go_enter Tryz.func136, Tryz.ntmps136
            go_upto_region 9 with fail
            go_region_with (first
              | (go_at_call 171; refine (kScript _).mono ?_; rintro e w3 ⟨rfl, rfl⟩)
              | (go_at_call 22; refine (RW.out _ (below_drew hb0) _).mono ?_; rintro e w4 ⟨rfl, c4, H4, m4⟩))
            all_goals
              go_wp2_with fail
              go_end0
              exact ⟨rfl, c4, H4, m4⟩
        · have EQ : Hid (ownM st t = rawM st t 2) := Lib.hid (by unfold ownM; simp only [n0, n1, n2, n3]; rfl)
          rw [EQ.out]
          clear EQ TM ON n0 n1 n2
          have hn := eqS_eq n3
          clear n3
          obtain ⟨kind, name, text, attrs, aA, acap, dup, self, quirks, frm, to_⟩ := t
          obtain rfl : name = nStyle := hn
          obtain ⟨b0, b1, b2, b3, b4, b5, b6, b7, b8⟩ := (HB.new w 24 (⟨kind, nStyle, text, attrs, aA, acap, dup, self, quirks, frm, to_⟩ : Tok).cells).tok
          unfold Tok.val at *
          unfold Tok.cells at *
          go_enter Tryz.func136, Tryz.ntmps136
          go_upto_region 9 with fail
          go_region_with (first
            | (go_at_call 171; refine (kStyle _).mono ?_; rintro e w3 ⟨rfl, rfl⟩)
            | (go_at_call 22; refine (RW.out _ (below_drew hb0) _).mono ?_; rintro e w4 ⟨rfl, c4, H4, m4⟩))
          all_goals
            go_wp2_with fail
            go_end0
            exact ⟨rfl, c4, H4, m4⟩
      · have EQ : Hid (ownM st t = rawM st t 2) := Lib.hid (by unfold ownM; simp only [n0, n1, n2]; rfl)
        rw [EQ.out]
        clear EQ TM ON n0 n1
        have hn := eqS_eq n2
        clear n2
        obtain ⟨kind, name, text, attrs, aA, acap, dup, self, quirks, frm, to_⟩ := t
        obtain rfl : name = nNoframes := hn
        obtain ⟨b0, b1, b2, b3, b4, b5, b6, b7, b8⟩ := (HB.new w 24 (⟨kind, nNoframes, text, attrs, aA, acap, dup, self, quirks, frm, to_⟩ : Tok).cells).tok
        unfold Tok.val at *
        unfold Tok.cells at *
        go_enter Tryz.func136, Tryz.ntmps136
        go_upto_region 9 with fail
        go_region_with (first
          | (go_at_call 171; refine (kNoframes _).mono ?_; rintro e w3 ⟨rfl, rfl⟩)
          | (go_at_call 22; refine (RW.out _ (below_drew hb0) _).mono ?_; rintro e w4 ⟨rfl, c4, H4, m4⟩))
        all_goals
          go_wp2_with fail
          go_end0
          exact ⟨rfl, c4, H4, m4⟩
    · have EQ : Hid (ownM st t = rawM st t 1) := Lib.hid (by unfold ownM; simp only [n0, n1]; rfl)
      rw [EQ.out]
      clear EQ TM ON n0
      have hn := eqS_eq n1
      clear n1
      obtain ⟨kind, name, text, attrs, aA, acap, dup, self, quirks, frm, to_⟩ := t
      obtain rfl : name = nTitle := hn
      obtain ⟨b0, b1, b2, b3, b4, b5, b6, b7, b8⟩ := (HB.new w 24 (⟨kind, nTitle, text, attrs, aA, acap, dup, self, quirks, frm, to_⟩ : Tok).cells).tok
      unfold Tok.val at *
      unfold Tok.cells at *
      go_enter Tryz.func136, Tryz.ntmps136
      go_upto_region 9 with fail
      go_region_with (first
        | (go_at_call 171; refine (kTitle _).mono ?_; rintro e w3 ⟨rfl, rfl⟩)
        | (go_at_call 22; refine (RW.out _ (below_drew hb0) _).mono ?_; rintro e w4 ⟨rfl, c4, H4, m4⟩))
      all_goals
        go_wp2_with fail
        go_end0
        exact ⟨rfl, c4, H4, m4⟩
  · have EQ : Hid (ownM st t = tmplM st t) := Lib.hid (by unfold ownM; rw [if_pos n0])
    rw [EQ.out]
    clear EQ
    obtain ⟨b0, b1, b2, b3, b4, b5, b6, b7, b8⟩ := (HB.new w 24 t.cells).tok
    have q0 : (t.name.toList == [116, 101, 109, 112, 108, 97, 116, 101]) = true := (eqS_lit _ _).symm.trans n0
    clear n0
    unfold Tok.val Tok.cells
    go_enter Tryz.func136, Tryz.ntmps136
    go_wp2_with fail
    refine TM.out.mono ?_
    rintro e w2 ⟨rfl, c2, H2, m2⟩
    go_wp2_with fail
    go_end0
    exact ⟨rfl, c2, H2, m2⟩
end Go.Proofs.YtjmlkmlbhfkhbaaGreatDoor
