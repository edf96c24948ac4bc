/-
  The reference's Lacks (143), Head (97).
  The reference's noscript (98), text (100).
  The reference's early (138), before (96).
-/
import Derived.Test.YtjmlkmlbhfkhbaaGreatDoorHp28
set_option linter.unusedSimpArgs false
set_option linter.unusedVariables false
namespace Go.Proofs.YtjmlkmlbhfkhbaaGreatDoor
open Go Go.RowKit

/-- A step's end: the state, and whether the token is to be done once more. -/
def StepS (h : Sd) (M : St × Bool) (w : World) (c : Col) (e : Ending) (w' : World) : Prop := OkS h M.1 (.bool M.2) w c e w'
theorem StepS.mk {h : Sd} {M : St × Bool} {s : St} {r : Bool} {w : World} {c : Col} {e : Ending} {w' : World} (E : M = (s, r)) (H : OkS h s (.bool r) w c e w') : StepS h M w c e w' := by
  subst E; exact H
theorem TkOk.mvS {h : Sd} {w w' : World} {c c' : Col} {t : Tok} (ht : TkOk w c t) (hs : h.sd ≠ 0) (hm : Mv (PrS h) w c w' c') : TkOk w' c' t :=
  ⟨ht.name, ht.text, ht.attrs, ht.at_.mv hm (fun k e => by unfold PrS at e; rw [e]; exact hs)⟩

set_option maxHeartbeats 2000000 in
theorem rLacks {w : World} {c : Col} {h : Sd} {st : St} (H : SRep w c h st) {N : Nat} (wf : Wf N st) (hN : N ≤ 890000) (hs : st.stk.length ≤ 100) (h0 : 0 < st.stk.length) (hno : lastOf st.stk [nTemplate] < 0) (t : Tok) (ht : TkOk w c t) :
    Calls Tryz.prog 143 #[.pointer (some ⟨h.g, 0, none⟩), t.val] w (OkS h (htmlM st t) (.tuple #[]) w c) := by
  have hb0 : Below w.heap.size w (w.alloc (.cells t.cells.toArray 24)) := below_alloc (Below.refl _ _) _
  have B0 := HB.new w 24 t.cells
  obtain ⟨b0, b1, b2, b3, b4, b5, b6, b7, b8⟩ := B0.tok
  have LA := Lib.hid (rLast (H.loc hb0) (by omega) wf.op nTemplate)
  obtain ⟨o, ho⟩ : ∃ o, st.stk[0]? = some o := ⟨_, List.getElem?_eq_getElem h0⟩
  obtain ⟨i, n, e1, e2, e3, e4, e5⟩ := wf.op 0 o ho
  have MO := Lib.hid (fun (W : World) (hb : Below w.heap.size w W) => (rMore (H.loc hb) wf.sz (by omega) e2 t.aA t.attrs t.acap (ht.at_.loc hb) (by have := ht.attrs; omega)).mono fun e w2 ho => ho.after hb)
  have EQ : Hid (htmlM st t = moreM st i n t.attrs) := Lib.hid (by
    have ha : (atOf st.stk 0).toNat = i := by
      unfold atOf
      rw [if_pos (by omega)]
      simp only [Int.toNat_zero, ho, e1, Int.toNat_natCast]
    unfold htmlM
    rw [if_neg (by omega), ha]
    simp only [e2])
  obtain ⟨X, HX⟩ := H.loc hb0
  have z1 := HX.bc.2.1
  obtain ⟨go, hA, -, -, hc, -⟩ := HX.opn.at_ h0
  have c0 := hc 0 (.int .i64 (i : Int)) (by unfold intCells opens; simp [ho, e1])
  rw [hA] at z1
  have g1 : (0 : Int) < (st.stk.length : Int) := by omega
  have hq : lastOf st.stk [nTemplate] < 0 := hno
  generalize lastOf st.stk [nTemplate] = q at *
  have HB0 := Lib.hid hb0
  clear H HX hA hc wf ht ho e1 e2 e3 e4 e5 hno hb0 B0 h0
  unfold Tok.val
  unfold Tok.cells at *
  go_enter Tryz.func143, Tryz.ntmps143
  go_wp2_with (go_at_call 177; refine LA.out.mono ?_; rintro e w2 ⟨rfl, rfl⟩)
  go_region_with (go_at_call 178; refine (MO.out _ (below_drew HB0.out)).mono ?_; rintro e w3 ⟨rfl, c3, H3, m3⟩)
  all_goals
    go_wp2_with fail
    rw [EQ.out]
    go_end0
    exact ⟨rfl, c3, H3, m3⟩

set_option maxRecDepth 100000 in
set_option maxHeartbeats 8000000 in
theorem rHead {w : World} {c : Col} {h : Sd} {st : St} (H : SRep w c h st) {N : Nat} (wf : Wf N st) (hN : N ≤ 890000) (hs : st.stk.length ≤ 100) (hf : st.fmt.length < 64) (hmd : st.modes = []) (t : Tok) (ht : TkOk w c t)
    (h0 : 0 < st.stk.length) (hno : lastOf st.stk [nTemplate] < 0) :
    Calls Tryz.prog 97 #[.pointer (some ⟨h.g, 0, none⟩), t.val] w (StepS h (headM st t) w c) := by
  have O := Lib.hid (fun (W : World) (hb : Below w.heap.size w W) => rops_of H wf hN hs t ht hb)
  have OH := Lib.hid (fun (W : World) (hb : Below w.heap.size w W) => (rLacks (H.loc hb) wf hN hs h0 hno t (ht.loc hb)).mono fun e w2 ho => ho.after hb)
  have OW := Lib.hid (fun (hl : belB t = true) (W : World) (hb : Below w.heap.size w W) => (rOwn (H.loc hb) wf hN hs hf hmd t (ht.loc hb) hno hl).mono fun e w2 ho => ho.after hb)
  have hb0 : Below w.heap.size w (w.alloc (.cells t.cells.toArray 24)) := below_alloc (Below.refl _ _) _
  have B0 := HB.new w 24 t.cells
  have BOX : Hid (∀ W C, Mv (PrS h) (w.alloc (.cells t.cells.toArray 24)) c W C → HB W w.heap.size 24 t.cells) := Lib.hid fun W C hm => B0.mvk hm (fun e => H.sd (by unfold PrS at e; rw [← e, H.gd _ (Nat.le_refl _)]))
  obtain ⟨b0, b1, b2, b3, b4, b5, b6, b7, b8⟩ := B0.tok
  have HCZ : Hid ((c w.heap.size).1 = 0) := Lib.hid (H.gd _ (Nat.le_refl _))
  clear H wf ht hs hf hmd h0 hno
  have EQ0 := Lib.hid (headR_eq st t).symm
  unfold headR at EQ0
  by_cases k1 : t.kind = 1
  · have EQ : Hid (headM st t = (st, false)) := Lib.hid (by rw [EQ0.out, if_pos k1])
    have k1' : (t.kind == 1) = true := by simp [k1]
    clear k1 EQ0
    unfold Tok.val Tok.cells
    go_enter Tryz.func97, Tryz.ntmps97
    go_wp2_with fail
    go_ret
    exact StepS.mk EQ.out ⟨rfl, c, (O.out _ hb0).rep, Mv.of_below hb0⟩
  rw [if_neg k1] at EQ0
  have k1' : (t.kind == 1) = false := by simp [k1]
  clear k1
  cases hS : strangeB t
  · rw [hS, Bool.false_and, if_neg (by simp)] at EQ0
    have HS := Lib.hid hS
    clear hS
    unfold Tok.val Tok.cells
    go_enter Tryz.func97, Tryz.ntmps97
    go_wp2_with fail
    refine Calls.mono (rStrange _ t) ?_
    rintro e w1 ⟨rfl, hb1⟩
    rw [HS.out]
    have hB1 := below_step hb0 hb1
    have B1 := B0.below hb1
    obtain ⟨d0, d1, d2, d3, d4, d5, d6, d7, d8⟩ := B1.tok
    clear b0 b1 b2 b3 b4 b5 b6 b7 b8
    go_wp2_with fail
    refine Calls.mono (rStarts _ t _ 1 [mHead] (by decide) (by exact Strs.mk_ _ (by simp))) ?_
    rintro e w2 ⟨rfl, hb2⟩
    have hB2 := below_step (below_alloc hB1 _) hb2
    have B2 := (B1.alloc _).below hb2
    obtain ⟨b0, b1, b2, b3, b4, b5, b6, b7, b8⟩ := B2.tok
    clear d0 d1 d2 d3 d4 d5 d6 d7 d8
    cases hH : startB t [mHead]
    · rw [hH, if_neg (by simp)] at EQ0
      clear hH
      by_cases k5 : t.kind = 5
      · have EQ : Hid (headM st t = (chM st t.text, false)) := Lib.hid (by rw [EQ0.out, if_pos k5])
        have k5' : (t.kind == 5) = true := by simp [k5]
        clear k5 EQ0
        go_wp2_with fail
        refine (O.out _ hB2).chars.mono ?_
        rintro e w3 ⟨rfl, c3, H3, m3⟩
        go_wp2_with fail
        go_ret
        exact StepS.mk EQ.out ⟨rfl, c3, H3, m3⟩
      rw [if_neg k5] at EQ0
      have k5' : (t.kind == 5) = false := by simp [k5]
      clear k5
      by_cases k4 : t.kind = 4
      · have EQ : Hid (headM st t = (cmM st t.text (plIx st.ns (tgtIx st)), false)) := Lib.hid (by rw [EQ0.out, if_pos k4])
        have k4' : (t.kind == 4) = true := by simp [k4]
        clear k4 EQ0
        go_wp2_with fail
        refine (O.out _ hB2).com1.mono ?_
        rintro e w3 ⟨rfl, c3, H3, m3⟩
        go_wp2_with fail
        go_ret
        exact StepS.mk EQ.out ⟨rfl, c3, H3, m3⟩
      rw [if_neg k4] at EQ0
      have k4' : (t.kind == 4) = false := by simp [k4]
      clear k4
      go_wp2_with fail
      refine Calls.mono (rStarts _ t _ 1 [mHtml] (by decide) (by exact Strs.mk_ _ (by simp))) ?_
      rintro e w3 ⟨rfl, hb3⟩
      have hB3 := below_step (below_alloc hB2 _) hb3
      have B3 := (B2.alloc _).below hb3
      obtain ⟨d0, d1, d2, d3, d4, d5, d6, d7, d8⟩ := B3.tok
      clear b0 b1 b2 b3 b4 b5 b6 b7 b8
      cases hT : startB t [mHtml]
      · rw [hT, if_neg (by simp)] at EQ0
        clear hT
        go_wp2_with fail
        refine Calls.mono (rBelongs _ t) ?_
        rintro e w4 ⟨rfl, hb4⟩
        have hB4 := below_step hB3 hb4
        have B4 := B3.below hb4
        obtain ⟨b0, b1, b2, b3, b4, b5, b6, b7, b8⟩ := B4.tok
        clear d0 d1 d2 d3 d4 d5 d6 d7 d8
        cases hL : belB t
        · rw [hL, if_neg (by simp)] at EQ0
          clear hL
          go_wp2_with fail
          refine Calls.mono (rStarts _ t _ 1 [mNoscript] (by decide) (by exact Strs.mk_ _ (by simp))) ?_
          rintro e w5 ⟨rfl, hb5⟩
          have hB5 := below_step (below_alloc hB4 _) hb5
          have B5 := (B4.alloc _).below hb5
          obtain ⟨d0, d1, d2, d3, d4, d5, d6, d7, d8⟩ := B5.tok
          clear b0 b1 b2 b3 b4 b5 b6 b7 b8
          cases hV : startB t [mNoscript]
          · rw [hV, if_neg (by simp)] at EQ0
            clear hV
            go_wp2_with fail
            refine (O.out _ hB5).pop.mono ?_
            rintro e w6 ⟨rfl, c6, ⟨X, HX⟩, m6⟩
            have hb05 : Below (w.alloc (.cells t.cells.toArray 24)).heap.size (w.alloc (.cells t.cells.toArray 24)) w5 := below_step (below_alloc (below_step (below_step (below_alloc (below_step (below_alloc hb1 _) hb2) _) hb3) hb4) _) hb5
            have m06 := (Mv.of_below hb05).trans m6
            have B6 := BOX.out _ _ m06
            have bl := B6.lt
            have hne := HX.ne (g := w.heap.size) (by rw [m06.ext _ (by simp)]; exact HCZ.out)
            have f3 := HX.hb.frozen 3
            have l3 := HX.hb.lt
            obtain ⟨-, -, -, y3, -⟩ := HX.bc
            obtain ⟨S1, S2⟩ := setMode HX 5
            have FIN := Lib.hid (And.intro S1 ((Mv.of_below hB5).trans (m6.trans S2)))
            obtain ⟨b0, b1, b2, b3, b4, b5, b6, b7, b8⟩ := B6.tok
            clear HX S1 S2 m6 m06 B6 d0 d1 d2 d3 d4 d5 d6 d7 d8
            go_wp2_with fail
            refine Calls.mono (rEnds _ t _ 1 [mHead] (by decide) (by exact Strs.mk_ _ (by simp))) ?_
            rintro e w8 ⟨rfl, hb8⟩
            have hB8 := below_step (below_alloc (Below.refl (w6.setCell ⟨h.g, 3, none⟩ (.int .i64 5)).heap.size (w6.setCell ⟨h.g, 3, none⟩ (.int .i64 5))) _) hb8
            go_wp2_with fail
            go_ret
            exact StepS.mk EQ0.out ⟨rfl, c6, (show SRep _ c6 h _ from ⟨_, FIN.out.1⟩).loc hB8, FIN.out.2.trans (Mv.of_below hB8)⟩
          · have EQ : Hid (headM st t = ({ insM st t 0 with mode := 4 }, false)) := Lib.hid (by rw [EQ0.out, hV, if_pos rfl])
            clear hV EQ0
            go_wp2_with fail
            refine (O.out _ hB5).ins.mono ?_
            rintro e w6 ⟨rfl, c6, ⟨X, HX⟩, m6⟩
            have f3 := HX.hb.frozen 3
            have l3 := HX.hb.lt
            obtain ⟨-, -, -, y3, -⟩ := HX.bc
            obtain ⟨S1, S2⟩ := setMode HX 4
            have FIN := Lib.hid (And.intro S1 (m6.trans S2))
            clear HX S1 S2 m6
            go_wp2_with fail
            go_ret
            exact StepS.mk EQ.out ⟨rfl, c6, ⟨_, FIN.out.1⟩, FIN.out.2⟩
        · have EQ : Hid (headM st t = (ownM st t, false)) := Lib.hid (by rw [EQ0.out, hL, if_pos rfl])
          have OW1 := Lib.hid (OW.out hL)
          clear hL EQ0 OW
          go_wp2_with fail
          refine (OW1.out _ hB4).mono ?_
          rintro e w5 ⟨rfl, c5, H5, m5⟩
          go_wp2_with fail
          go_ret
          exact StepS.mk EQ.out ⟨rfl, c5, H5, m5⟩
      · have EQ : Hid (headM st t = (htmlM st t, false)) := Lib.hid (by rw [EQ0.out, hT, if_pos rfl])
        clear hT EQ0
        go_wp2_with fail
        refine (OH.out _ hB3).mono ?_
        rintro e w4 ⟨rfl, c4, H4, m4⟩
        go_wp2_with fail
        go_ret
        exact StepS.mk EQ.out ⟨rfl, c4, H4, m4⟩
    · have EQ : Hid (headM st t = (st, false)) := Lib.hid (by rw [EQ0.out, hH, if_pos rfl])
      clear hH EQ0
      go_wp2_with fail
      go_ret
      exact StepS.mk EQ.out ⟨rfl, c, (O.out _ hB2).rep, Mv.of_below hB2⟩
  · have k3 : t.kind = 3 := by
      by_cases h : t.kind = 3
      · exact h
      · rw [strangeB_kind h] at hS; cases hS
    have HS := Lib.hid hS
    rw [hS, Bool.true_and] at EQ0
    clear hS
    cases hL : belB t
    · have EQ : Hid (headM st t = (st, false)) := Lib.hid (by rw [EQ0.out, hL]; simp)
      have HL := Lib.hid hL
      clear hL EQ0 k3
      unfold Tok.val Tok.cells
      go_enter Tryz.func97, Tryz.ntmps97
      go_wp2_with fail
      refine Calls.mono (rStrange _ t) ?_
      rintro e w1 ⟨rfl, hb1⟩
      rw [HS.out]
      have hB1 := below_step hb0 hb1
      have B1 := B0.below hb1
      obtain ⟨d0, d1, d2, d3, d4, d5, d6, d7, d8⟩ := B1.tok
      clear b0 b1 b2 b3 b4 b5 b6 b7 b8
      go_wp2_with fail
      refine Calls.mono (rBelongs _ t) ?_
      rintro e w2 ⟨rfl, hb2⟩
      rw [HL.out]
      have hB2 := below_step hB1 hb2
      go_wp2_with fail
      go_ret
      exact StepS.mk EQ.out ⟨rfl, c, (O.out _ hB2).rep, Mv.of_below hB2⟩
    · have s1 := startB_kind (t := t) (ns := [mHead]) (by omega)
      have s2 := startB_kind (t := t) (ns := [mHtml]) (by omega)
      have EQ : Hid (headM st t = (ownM st t, false)) := Lib.hid (by rw [EQ0.out, hL, s1, s2]; simp [k3])
      have HL := Lib.hid hL
      have SS := Lib.hid (And.intro s1 s2)
      have OW1 := Lib.hid (OW.out hL)
      have k5' : (t.kind == 5) = false := by simp [k3]
      have k4' : (t.kind == 4) = false := by simp [k3]
      clear hL EQ0 k3 s1 s2 OW
      unfold Tok.val Tok.cells
      go_enter Tryz.func97, Tryz.ntmps97
      go_wp2_with fail
      refine Calls.mono (rStrange _ t) ?_
      rintro e w1 ⟨rfl, hb1⟩
      rw [HS.out]
      have hB1 := below_step hb0 hb1
      have B1 := B0.below hb1
      obtain ⟨d0, d1, d2, d3, d4, d5, d6, d7, d8⟩ := B1.tok
      clear b0 b1 b2 b3 b4 b5 b6 b7 b8
      go_wp2_with fail
      refine Calls.mono (rBelongs _ t) ?_
      rintro e w2 ⟨rfl, hb2⟩
      rw [HL.out]
      have hB2 := below_step hB1 hb2
      have B2 := B1.below hb2
      obtain ⟨b0, b1, b2, b3, b4, b5, b6, b7, b8⟩ := B2.tok
      clear d0 d1 d2 d3 d4 d5 d6 d7 d8
      go_wp2_with fail
      refine Calls.mono (rStarts _ t _ 1 [mHead] (by decide) (by exact Strs.mk_ _ (by simp))) ?_
      rintro e w3 ⟨rfl, hb3⟩
      rw [SS.out.1]
      have hB3 := below_step (below_alloc hB2 _) hb3
      have B3 := (B2.alloc _).below hb3
      obtain ⟨d0, d1, d2, d3, d4, d5, d6, d7, d8⟩ := B3.tok
      clear b0 b1 b2 b3 b4 b5 b6 b7 b8
      go_wp2_with fail
      refine Calls.mono (rStarts _ t _ 1 [mHtml] (by decide) (by exact Strs.mk_ _ (by simp))) ?_
      rintro e w4 ⟨rfl, hb4⟩
      rw [SS.out.2]
      have hB4 := below_step (below_alloc hB3 _) hb4
      have B4 := (B3.alloc _).below hb4
      obtain ⟨b0, b1, b2, b3, b4, b5, b6, b7, b8⟩ := B4.tok
      clear d0 d1 d2 d3 d4 d5 d6 d7 d8
      go_wp2_with fail
      refine Calls.mono (rBelongs _ t) ?_
      rintro e w5 ⟨rfl, hb5⟩
      rw [HL.out]
      have hB5 := below_step hB4 hb5
      have B5 := B4.below hb5
      obtain ⟨d0, d1, d2, d3, d4, d5, d6, d7, d8⟩ := B5.tok
      clear b0 b1 b2 b3 b4 b5 b6 b7 b8
      go_wp2_with fail
      refine (OW1.out _ hB5).mono ?_
      rintro e w6 ⟨rfl, c6, H6, m6⟩
      go_wp2_with fail
      go_ret
      exact StepS.mk EQ.out ⟨rfl, c6, H6, m6⟩
end Go.Proofs.YtjmlkmlbhfkhbaaGreatDoor
namespace Go.Proofs.YtjmlkmlbhfkhbaaGreatDoor
open Go Go.RowKit

theorem StepS.cong {h : Sd} {M M' : St × Bool} {w : World} {c : Col} {e : Ending} {w' : World} (E : M = M') (H : StepS h M' w c e w') : StepS h M w c e w' := by
  subst E; exact H

set_option maxRecDepth 100000 in
set_option maxHeartbeats 8000000 in
theorem rNoscript {w : World} {c : Col} {h : Sd} {st : St} (H : SRep w c h st) {N : Nat} (wf : Wf N st) (hN : N ≤ 890000) (hs : st.stk.length ≤ 100) (hf : st.fmt.length < 64) (hmd : st.modes = []) (t : Tok) (ht : TkOk w c t)
    (h0 : 0 < st.stk.length) (hno : lastOf st.stk [nTemplate] < 0) :
    Calls Tryz.prog 98 #[.pointer (some ⟨h.g, 0, none⟩), t.val] w (StepS h (noscriptM st t) w c) := by
  have O := Lib.hid (fun (W : World) (hb : Below w.heap.size w W) => rops_of H wf hN hs t ht hb)
  have HD := Lib.hid (fun (W : World) (hb : Below w.heap.size w W) => (rHead (H.loc hb) wf hN hs hf hmd t (ht.loc hb) h0 hno).mono fun e w2 (ho : OkS h (headM st t).1 (.bool (headM st t).2) W c e w2) => ho.after hb)
  have hb0 : Below w.heap.size w (w.alloc (.cells t.cells.toArray 24)) := below_alloc (Below.refl _ _) _
  have B0 := HB.new w 24 t.cells
  have BOX : Hid (∀ W C, Mv (PrS h) (w.alloc (.cells t.cells.toArray 24)) c W C → HB W w.heap.size 24 t.cells) := Lib.hid fun W C hm => B0.mvk hm (fun e => H.sd (by unfold PrS at e; rw [← e, H.gd _ (Nat.le_refl _)]))
  obtain ⟨b0, b1, b2, b3, b4, b5, b6, b7, b8⟩ := B0.tok
  have HCZ : Hid ((c w.heap.size).1 = 0) := Lib.hid (H.gd _ (Nat.le_refl _))
  clear H wf ht hs hf hmd h0 hno
  have EQ0 := Lib.hid (noscriptR_eq st t).symm
  unfold noscriptR at EQ0
  by_cases k1 : t.kind = 1
  · have EQ : Hid (noscriptM st t = (st, false)) := Lib.hid (by rw [EQ0.out, if_pos k1])
    have k1' : (t.kind == 1) = true := by simp [k1]
    clear k1 EQ0
    unfold Tok.val Tok.cells
    go_enter Tryz.func98, Tryz.ntmps98
    go_wp2_with fail
    go_ret
    exact StepS.mk EQ.out ⟨rfl, c, (O.out _ hb0).rep, Mv.of_below hb0⟩
  rw [if_neg k1] at EQ0
  have k1' : (t.kind == 1) = false := by simp [k1]
  clear k1
  unfold Tok.val Tok.cells
  go_enter Tryz.func98, Tryz.ntmps98
  go_wp2_with fail
  refine Calls.mono (rStarts _ t _ 2 [mHead, mNoscript] (by decide) (by exact Strs.mk_ _ (by simp))) ?_
  rintro e w1 ⟨rfl, hb1⟩
  have hB1 := below_step (below_alloc hb0 _) hb1
  have B1 := (B0.alloc _).below hb1
  obtain ⟨d0, d1, d2, d3, d4, d5, d6, d7, d8⟩ := B1.tok
  clear b0 b1 b2 b3 b4 b5 b6 b7 b8
  cases hH : startB t [mHead, mNoscript]
  · rw [hH, if_neg (by simp)] at EQ0
    clear hH
    by_cases k3 : t.kind = 3
    · have k3' : (t.kind == 3) = true := by simp [k3]
      have k4' : (t.kind == 4) = false := by simp [k3]
      have k5' : (t.kind == 5) = false := by simp [k3]
      have SS := Lib.hid (startB_kind (t := t) (ns := nosNames) (by omega))
      have EQ1 : Hid (noscriptM st t = if endB t [mNoscript, mBr] = false then (st, false) else ({ st with stk := st.stk.dropLast, mode := 3 }, !endB t [mNoscript])) := Lib.hid (by rw [EQ0.out, SS.out]; simp [k3])
      clear k3 EQ0
      go_wp2_with fail
      refine Calls.mono (rEnds _ t _ 2 [mNoscript, mBr] (by decide) (by exact Strs.mk_ _ (by simp))) ?_
      rintro e w2 ⟨rfl, hb2⟩
      have hB2 := below_step (below_alloc hB1 _) hb2
      have B2 := (B1.alloc _).below hb2
      obtain ⟨b0, b1, b2, b3, b4, b5, b6, b7, b8⟩ := B2.tok
      clear d0 d1 d2 d3 d4 d5 d6 d7 d8
      cases hE : endB t [mNoscript, mBr]
      · rw [hE, if_pos rfl] at EQ1
        clear hE
        go_wp2_with fail
        go_ret
        exact StepS.mk EQ1.out ⟨rfl, c, (O.out _ hB2).rep, Mv.of_below hB2⟩
      · rw [hE, if_neg (by simp)] at EQ1
        clear hE
        go_wp2_with fail
        refine Calls.mono (rStarts _ t _ 7 nosNames (by decide) (by exact Strs.mk_ _ (by simp))) ?_
        rintro e w3 ⟨rfl, hb3⟩
        rw [SS.out]
        have hB3 := below_step (below_alloc hB2 _) hb3
        have B3 := (B2.alloc _).below hb3
        clear b0 b1 b2 b3 b4 b5 b6 b7 b8
        go_wp2_with fail
        refine (O.out _ hB3).pop.mono ?_
        rintro e w6 ⟨rfl, c6, ⟨X, HX⟩, m6⟩
        have hb05 : Below (w.alloc (.cells t.cells.toArray 24)).heap.size (w.alloc (.cells t.cells.toArray 24)) w3 := below_step (below_alloc (below_step (below_alloc (below_step (below_alloc (Below.refl _ _) _) hb1) _) hb2) _) hb3
        have m06 := (Mv.of_below hb05).trans m6
        have B6 := BOX.out _ _ m06
        have bl := B6.lt
        have hne := HX.ne (g := w.heap.size) (by rw [m06.ext _ (by simp)]; exact HCZ.out)
        have f3 := HX.hb.frozen 3
        have l3 := HX.hb.lt
        obtain ⟨-, -, -, y3, -⟩ := HX.bc
        obtain ⟨S1, S2⟩ := setMode HX 3
        have FIN := Lib.hid (And.intro S1 ((Mv.of_below hB3).trans (m6.trans S2)))
        obtain ⟨b0, b1, b2, b3, b4, b5, b6, b7, b8⟩ := B6.tok
        clear HX S1 S2 m6 m06 B6
        go_wp2_with fail
        refine Calls.mono (rEnds _ t _ 1 [mNoscript] (by decide) (by exact Strs.mk_ _ (by simp))) ?_
        rintro e w8 ⟨rfl, hb8⟩
        have hB8 := below_step (below_alloc (Below.refl (w6.setCell ⟨h.g, 3, none⟩ (.int .i64 3)).heap.size (w6.setCell ⟨h.g, 3, none⟩ (.int .i64 3))) _) hb8
        go_wp2_with fail
        go_ret
        exact StepS.mk EQ1.out ⟨rfl, c6, (show SRep _ c6 h _ from ⟨_, FIN.out.1⟩).loc hB8, FIN.out.2.trans (Mv.of_below hB8)⟩
    · rw [if_neg (by simp [k3])] at EQ0
      have k3' : (t.kind == 3) = false := by simp [k3]
      clear k3
      by_cases k5 : t.kind = 5
      · have EQ : Hid (noscriptM st t = headM st t) := Lib.hid (by rw [EQ0.out, if_pos k5])
        have k5' : (t.kind == 5) = true := by simp [k5]
        clear k5 EQ0
        go_wp2_with fail
        refine (HD.out _ hB1).mono ?_
        rintro e w3 ⟨rfl, c3, H3, m3⟩
        go_wp2_with fail
        go_ret
        exact StepS.cong EQ.out ⟨rfl, c3, H3, m3⟩
      rw [if_neg k5] at EQ0
      have k5' : (t.kind == 5) = false := by simp [k5]
      clear k5
      by_cases k4 : t.kind = 4
      · have EQ : Hid (noscriptM st t = headM st t) := Lib.hid (by rw [EQ0.out, if_pos k4])
        have k4' : (t.kind == 4) = true := by simp [k4]
        clear k4 EQ0
        go_wp2_with fail
        refine (HD.out _ hB1).mono ?_
        rintro e w3 ⟨rfl, c3, H3, m3⟩
        go_wp2_with fail
        go_ret
        exact StepS.cong EQ.out ⟨rfl, c3, H3, m3⟩
      rw [if_neg k4] at EQ0
      have k4' : (t.kind == 4) = false := by simp [k4]
      clear k4
      go_wp2_with fail
      refine Calls.mono (rStarts _ t _ 7 nosNames (by decide) (by exact Strs.mk_ _ (by simp))) ?_
      rintro e w3 ⟨rfl, hb3⟩
      have hB3 := below_step (below_alloc hB1 _) hb3
      have B3 := (B1.alloc _).below hb3
      obtain ⟨b0, b1, b2, b3, b4, b5, b6, b7, b8⟩ := B3.tok
      clear d0 d1 d2 d3 d4 d5 d6 d7 d8
      cases hV : startB t nosNames
      · rw [hV, if_neg (by simp)] at EQ0
        clear hV b0 b1 b2 b3 b4 b5 b6 b7 b8
        go_wp2_with fail
        refine (O.out _ hB3).pop.mono ?_
        rintro e w6 ⟨rfl, c6, ⟨X, HX⟩, m6⟩
        have hb05 : Below (w.alloc (.cells t.cells.toArray 24)).heap.size (w.alloc (.cells t.cells.toArray 24)) w3 := below_step (below_alloc (below_step (below_alloc (Below.refl _ _) _) hb1) _) hb3
        have m06 := (Mv.of_below hb05).trans m6
        have B6 := BOX.out _ _ m06
        have bl := B6.lt
        have hne := HX.ne (g := w.heap.size) (by rw [m06.ext _ (by simp)]; exact HCZ.out)
        have f3 := HX.hb.frozen 3
        have l3 := HX.hb.lt
        obtain ⟨-, -, -, y3, -⟩ := HX.bc
        obtain ⟨S1, S2⟩ := setMode HX 3
        have FIN := Lib.hid (And.intro S1 ((Mv.of_below hB3).trans (m6.trans S2)))
        obtain ⟨b0, b1, b2, b3, b4, b5, b6, b7, b8⟩ := B6.tok
        clear HX S1 S2 m6 m06 B6
        go_wp2_with fail
        refine Calls.mono (rEnds _ t _ 1 [mNoscript] (by decide) (by exact Strs.mk_ _ (by simp))) ?_
        rintro e w8 ⟨rfl, hb8⟩
        have hB8 := below_step (below_alloc (Below.refl (w6.setCell ⟨h.g, 3, none⟩ (.int .i64 3)).heap.size (w6.setCell ⟨h.g, 3, none⟩ (.int .i64 3))) _) hb8
        go_wp2_with fail
        go_ret
        exact StepS.mk EQ0.out ⟨rfl, c6, (show SRep _ c6 h _ from ⟨_, FIN.out.1⟩).loc hB8, FIN.out.2.trans (Mv.of_below hB8)⟩
      · have EQ : Hid (noscriptM st t = headM st t) := Lib.hid (by rw [EQ0.out, hV, if_pos rfl])
        clear hV EQ0
        go_wp2_with fail
        refine (HD.out _ hB3).mono ?_
        rintro e w4 ⟨rfl, c4, H4, m4⟩
        go_wp2_with fail
        go_ret
        exact StepS.cong EQ.out ⟨rfl, c4, H4, m4⟩
  · have EQ : Hid (noscriptM st t = (st, false)) := Lib.hid (by rw [EQ0.out, hH, if_pos rfl])
    clear hH EQ0
    go_wp2_with fail
    go_ret
    exact StepS.mk EQ.out ⟨rfl, c, (O.out _ hB1).rep, Mv.of_below hB1⟩

set_option maxRecDepth 100000 in
set_option maxHeartbeats 4000000 in
theorem rText {w : World} {c : Col} {h : Sd} {st : St} (H : SRep w c h st) {N : Nat} (wf : Wf N st) (hN : N ≤ 890000) (hs : st.stk.length ≤ 100) (t : Tok) (ht : TkOk w c t) :
    Calls Tryz.prog 100 #[.pointer (some ⟨h.g, 0, none⟩), t.val] w (StepS h (txtM st t) w c) := by
  have O := Lib.hid (fun (W : World) (hb : Below w.heap.size w W) => rops_of H wf hN hs t ht hb)
  have hb0 : Below w.heap.size w (w.alloc (.cells t.cells.toArray 24)) := below_alloc (Below.refl _ _) _
  have B0 := HB.new w 24 t.cells
  have BOX : Hid (∀ W C, Mv (PrS h) (w.alloc (.cells t.cells.toArray 24)) c W C → HB W w.heap.size 24 t.cells) := Lib.hid fun W C hm => B0.mvk hm (fun e => H.sd (by unfold PrS at e; rw [← e, H.gd _ (Nat.le_refl _)]))
  obtain ⟨b0, b1, b2, b3, b4, b5, b6, b7, b8⟩ := B0.tok
  have HCZ : Hid ((c w.heap.size).1 = 0) := Lib.hid (H.gd _ (Nat.le_refl _))
  clear H wf ht hs
  have EQ0 : Hid (txtM st t = if charsB t then (chM st t.text, false) else ({ st with stk := st.stk.dropLast, mode := st.back }, t.kind == 8)) := Lib.hid (by rw [← txtR_eq]; rfl)
  unfold Tok.val Tok.cells
  go_enter Tryz.func100, Tryz.ntmps100
  go_wp2_with fail
  refine Calls.mono (rIsChars _ t) ?_
  rintro e w1 ⟨rfl, hb1⟩
  have hB1 := below_step hb0 hb1
  have B1 := B0.below hb1
  obtain ⟨d0, d1, d2, d3, d4, d5, d6, d7, d8⟩ := B1.tok
  clear b0 b1 b2 b3 b4 b5 b6 b7 b8
  cases hC : charsB t
  · rw [hC, if_neg (by simp)] at EQ0
    clear hC
    go_wp2_with fail
    refine (O.out _ hB1).pop.mono ?_
    rintro e w6 ⟨rfl, c6, ⟨X, HX⟩, m6⟩
    have m06 := (Mv.of_below hb1).trans m6
    have B6 := BOX.out _ _ m06
    have bl := B6.lt
    have hne := HX.ne (g := w.heap.size) (by rw [m06.ext _ (by simp)]; exact HCZ.out)
    have f3 := HX.hb.frozen 3
    have l3 := HX.hb.lt
    obtain ⟨-, -, -, y3, y4, -⟩ := HX.bc
    obtain ⟨S1, S2⟩ := setMode HX st.back
    have FIN := Lib.hid (And.intro S1 ((Mv.of_below hB1).trans (m6.trans S2)))
    obtain ⟨b0, b1, b2, b3, b4, b5, b6, b7, b8⟩ := B6.tok
    clear HX S1 S2 m6 m06 B6 d0 d1 d2 d3 d4 d5 d6 d7 d8
    go_wp2_with fail
    go_ret
    exact StepS.mk EQ0.out ⟨rfl, c6, ⟨_, FIN.out.1⟩, FIN.out.2⟩
  · have EQ : Hid (txtM st t = (chM st t.text, false)) := Lib.hid (by rw [EQ0.out, hC, if_pos rfl])
    clear hC EQ0
    go_wp2_with fail
    refine (O.out _ hB1).chars.mono ?_
    rintro e w2 ⟨rfl, c2, H2, m2⟩
    go_wp2_with fail
    go_ret
    exact StepS.mk EQ.out ⟨rfl, c2, H2, m2⟩
end Go.Proofs.YtjmlkmlbhfkhbaaGreatDoor
namespace Go.Proofs.YtjmlkmlbhfkhbaaGreatDoor
open Go Go.RowKit

set_option maxRecDepth 100000 in
set_option maxHeartbeats 4000000 in
theorem rEarly {w : World} {c : Col} {h : Sd} {st : St} (H : SRep w c h st) {N : Nat} (wf : Wf N st) (hN : N ≤ 890000) (hs : st.stk.length ≤ 100) (t : Tok) (ht : TkOk w c t) :
    Calls Tryz.prog 138 #[.pointer (some ⟨h.g, 0, none⟩), t.val] w (OkS h (earlyM st t) (.bool (earlyB st.mode t)) w c) := by
  have O := Lib.hid (fun (W : World) (hb : Below w.heap.size w W) => rops_of H wf hN hs t ht hb)
  have hb0 : Below w.heap.size w (w.alloc (.cells t.cells.toArray 24)) := below_alloc (Below.refl _ _) _
  have B0 := HB.new w 24 t.cells
  obtain ⟨b0, b1, b2, b3, b4, b5, b6, b7, b8⟩ := B0.tok
  have HC := H
  obtain ⟨X, HX⟩ := HC
  obtain ⟨-, -, -, y3, -⟩ := HX.bc
  have l3 := HX.hb.lt
  clear H wf ht hs HX
  by_cases k4 : t.kind = 4
  · have k4' : (t.kind == 4) = true := by simp [k4]
    have EB : Hid (earlyB st.mode t = true) := Lib.hid (by unfold earlyB; simp [k4])
    by_cases m2 : st.mode = 2
    · have EM : Hid (earlyM st t = cmM st t.text (plIx st.ns (tgtIx st))) := Lib.hid (by unfold earlyM; rw [if_pos k4, if_pos m2])
      have m2' : (st.mode == 2) = true := by simp [m2]
      clear k4 m2
      generalize st.mode = md at *
      unfold Tok.val Tok.cells
      go_enter Tryz.func138, Tryz.ntmps138
      go_wp2_with fail
      refine (O.out _ hb0).com1.mono ?_
      rintro e w3 ⟨rfl, c3, H3, m3⟩
      go_wp2_with fail
      go_ret
      rw [EB.out, EM.out]
      exact ⟨rfl, c3, H3, m3⟩
    · have EM : Hid (earlyM st t = cmM st t.text 0) := Lib.hid (by unfold earlyM; rw [if_pos k4, if_neg m2])
      have m2' : (st.mode == 2) = false := by simp [m2]
      clear k4 m2
      generalize st.mode = md at *
      unfold Tok.val Tok.cells
      go_enter Tryz.func138, Tryz.ntmps138
      go_wp2_with fail
      refine (O.out _ hb0).com.mono ?_
      rintro e w3 ⟨rfl, c3, H3, m3⟩
      go_wp2_with fail
      go_ret
      rw [EB.out, EM.out]
      exact ⟨rfl, c3, H3, m3⟩
  have k4' : (t.kind == 4) = false := by simp [k4]
  have EM : Hid (earlyM st t = st) := Lib.hid (by unfold earlyM; rw [if_neg k4])
  clear k4
  by_cases k5 : t.kind = 5
  · have k5' : (t.kind == 5) = true := by simp [k5]
    have EB : Hid (earlyB st.mode t = true) := Lib.hid (by unfold earlyB; simp [k5])
    clear k5
    generalize st.mode = md at *
    unfold Tok.val Tok.cells
    go_enter Tryz.func138, Tryz.ntmps138
    go_wp2_with fail
    go_ret
    rw [EB.out, EM.out]
    exact ⟨rfl, c, (O.out _ hb0).rep, Mv.of_below hb0⟩
  have k5' : (t.kind == 5) = false := by simp [k5]
  clear k5
  by_cases m0 : 0 < st.mode
  · by_cases k1 : t.kind = 1
    · have k1' : (t.kind == 1) = true := by simp [k1]
      have EB : Hid (earlyB st.mode t = true) := Lib.hid (by unfold earlyB; simp [k1, m0])
      clear k1
      generalize st.mode = md at *
      unfold Tok.val Tok.cells
      go_enter Tryz.func138, Tryz.ntmps138
      go_wp2_with fail
      go_ret
      rw [EB.out, EM.out]
      exact ⟨rfl, c, (O.out _ hb0).rep, Mv.of_below hb0⟩
    · have k1' : (t.kind == 1) = false := by simp [k1]
      have EB : Hid (earlyB st.mode t = strangeB t) := Lib.hid (by unfold earlyB; rw [k4', k5', k1']; simp [m0])
      clear k1
      generalize st.mode = md at *
      unfold Tok.val Tok.cells
      go_enter Tryz.func138, Tryz.ntmps138
      go_wp2_with fail
      refine Calls.mono (rStrange _ t) ?_
      rintro e w1 ⟨rfl, hb1⟩
      have hB1 := below_step hb0 hb1
      cases hS : strangeB t
      all_goals
        rw [hS] at EB
        clear hS
        go_wp2_with fail
        go_ret
        rw [EB.out, EM.out]
        exact ⟨rfl, c, (O.out _ hB1).rep, Mv.of_below hB1⟩
  · have EB : Hid (earlyB st.mode t = false) := Lib.hid (by unfold earlyB; rw [k4', k5']; simp [m0])
    generalize st.mode = md at *
    unfold Tok.val Tok.cells
    go_enter Tryz.func138, Tryz.ntmps138
    go_wp2_with fail
    go_ret
    rw [EB.out, EM.out]
    exact ⟨rfl, c, (O.out _ hb0).rep, Mv.of_below hb0⟩
end Go.Proofs.YtjmlkmlbhfkhbaaGreatDoor
