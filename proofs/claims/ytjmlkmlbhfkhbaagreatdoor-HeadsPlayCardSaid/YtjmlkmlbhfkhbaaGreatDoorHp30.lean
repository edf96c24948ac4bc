/-
  The reference's before (96).
  The reference's before (96) in the modes 1 and 2.
  What a step leaves of the lists' lengths; what is asked is no part of the invariant.
  The chapter's tokens as states.
-/
import Derived.Test.YtjmlkmlbhfkhbaaGreatDoorHp29
import Derived.Test.YtjmlkmlbhfkhbaaGreatDoorHp20
import Derived.Test.YtjmlkmlbhfkhbaaGreatDoorHp09
set_option linter.unusedSimpArgs false
set_option linter.unusedVariables false
namespace Go.Proofs.YtjmlkmlbhfkhbaaGreatDoor
open Go Go.RowKit

theorem earlyM_not {st : St} {t : Tok} (h : earlyB st.mode t = false) : earlyM st t = st := by
  have hk : t.kind ≠ 4 := fun e => by unfold earlyB at h; rw [e] at h; simp at h
  unfold earlyM; rw [if_neg hk]

theorem Wf.modeS {N : Nat} {st : St} (h : Wf N st) (m : Int) : Wf N { st with mode := m } := ⟨h.sz, h.op, h.up, h.doc, h.cont, h.kid, h.nf⟩

set_option maxRecDepth 100000 in
set_option maxHeartbeats 8000000 in
theorem rBefore0 {w : World} {c : Col} {h : Sd} {st : St} (H : SRep w c h st) {N : Nat} (wf : Wf N st) (hN : N ≤ 890000) (hs : st.stk.length ≤ 100) (t : Tok) (ht : TkOk w c t) (hm0 : st.mode = 0) :
    Calls Tryz.prog 96 #[.pointer (some ⟨h.g, 0, none⟩), t.val] w (StepS h (stepM st t) w c) := by
  have hb0 : Below w.heap.size w (w.alloc (.cells t.cells.toArray 24)) := below_alloc (Below.refl _ _) _
  have B0 := HB.new w 24 t.cells
  have BOX : Hid (∀ W C, Mv (PrS h) (w.alloc (.cells t.cells.toArray 24)) c W C → HB W w.heap.size 24 t.cells) := Lib.hid fun W C hm => B0.mvk hm (fun e => H.sd (by unfold PrS at e; rw [← e, H.gd _ (Nat.le_refl _)]))
  have HCZ : Hid ((c w.heap.size).1 = 0) := Lib.hid (H.gd _ (Nat.le_refl _))
  have EA := Lib.hid (rEarly (H.loc hb0) wf hN hs t (ht.loc hb0))
  have EQ0 : Hid (stepM st t = _) := Lib.hid (beforeR_eq (.inl hm0) t).symm
  unfold beforeR at EQ0
  have HB0 := Lib.hid hb0
  have HM := Lib.hid hm0
  have WF := Lib.hid wf
  clear H wf ht hs hb0 hm0 B0
  have EE : Hid (earlyB st.mode t = false → earlyM st t = st) := Lib.hid earlyM_not
  generalize hE : earlyB st.mode t = eb at *
  clear hE
  have eC : (dtC t.name).val = .agg #[.int .i64 2, .string t.name, .string ⟨#[]⟩, .int .i64 0, .slice none 0 0, .bool false, .int .i64 0, .int .i64 0, .slice none 0 0, .int .i64 (-1), .int .i64 (-1)] := rfl
  have EC := Lib.hid eC
  clear eC
  unfold Tok.val
  unfold Tok.val at EA
  unfold Tok.cells at *
  go_enter Tryz.func96, Tryz.ntmps96
  go_wp2_with fail
  refine EA.out.mono ?_
  rintro e w1 ⟨rfl, c1, H1, m1⟩
  clear EA
  cases eb
  · rw [EE.out rfl] at H1
    rw [if_neg (by simp), if_pos HM.out] at EQ0
    have B1 := BOX.out _ _ m1
    obtain ⟨X, HX⟩ := H1
    have f3 := HX.hb.frozen 3
    have f8 := HX.hb.frozen 8
    have l3 := HX.hb.lt
    obtain ⟨-, -, -, y3, -, -, -, -, y8, -⟩ := HX.bc
    rw [HM.out] at y3
    have hne := HX.ne (g := w.heap.size) (by rw [m1.ext _ (by simp)]; exact HCZ.out)
    obtain ⟨S1, S2⟩ := setMode HX 1
    obtain ⟨T1, T2⟩ := setQuirksS S1 true
    have mT := (Mv.of_below (S := PrS h) HB0.out).trans (m1.trans (S2.trans T2))
    have bl := B1.lt
    have D1 := (B1.setOther (a := ⟨h.g, 3, none⟩) hne (.int .i64 1)).setOther (a := ⟨h.g, 8, none⟩) hne (.bool true)
    have DT := Lib.hid D1
    have FT := Lib.hid (And.intro T1 mT)
    have MT := Lib.hid (m1.trans (S2.trans T2))
    obtain ⟨b0, b1, b2, b3, b4, b5, b6, b7, b8⟩ := B1.tok
    clear HX S1 S2 T1 T2 mT D1 B1 m1
    by_cases k1 : t.kind = 1
    · have EQ : Hid (stepM st t = (dtM st t, false)) := Lib.hid (by rw [EQ0.out, if_pos k1])
      have k1' : (t.kind == 1) = true := by simp [k1]
      have k1'' : (t.kind != 1) = false := by simp [k1]
      clear k1 EQ0
      have WT : Hid (Wf N { st with mode := 1, quirks := true }) := Lib.hid ((WF.out).mode' 1 true)
      have AL := Lib.hid (rAddLay (show SRep _ c1 h _ from ⟨X, FT.out.1⟩) WT.out (by omega) (dtC t.name) rfl rfl (Nat.zero_le 1000) (p := 0) (by have := WF.out.sz.2.1; show 0 < st.ns.length; omega))
      rw [EC.out] at AL
      go_wp2_with fail
      refine AL.out.mono ?_
      rintro e w2 ⟨rfl, c2, H2, m2, LY⟩
      have LYH := Lib.hid (LY _ (Below.refl _ _))
      clear LY H2 m2 AL b0 b1 b2 b3 b4 b5 b6 b7 b8 y3 y8 f3 f8
      go_wp2_with fail
      refine LYH.out.mono ?_
      rintro e w3 ⟨rfl, c3, ⟨Y, HY⟩, m3⟩
      clear LYH
      have m03 := MT.out.trans m3
      have B3 := BOX.out _ _ m03
      have bl3 := B3.lt
      have hne3 := HY.ne (g := w.heap.size) (by rw [m03.ext _ (by simp)]; exact HCZ.out)
      have f8 := HY.hb.frozen 8
      have l3 := HY.hb.lt
      obtain ⟨-, -, -, -, -, -, -, -, y8, -⟩ := HY.bc
      have SQ := Lib.hid (fun q => setQuirksS HY q)
      have MF := Lib.hid (FT.out.2.trans m3)
      obtain ⟨b0, b1, b2, b3, b4, b5, b6, b7, b8⟩ := B3.tok
      clear HY m3 m03 B3
      have fin : ∀ q : Bool, (t.quirks || !eqS t.name mHtml) = q → StepS h (stepM st t) w c (.returned (.bool false)) (w3.setCell ⟨h.g, 8, none⟩ (.bool q)) := by
        intro q hq
        refine StepS.mk EQ.out ⟨rfl, c3, ⟨Y, ?_⟩, MF.out.trans (SQ.out q).2⟩
        have := (SQ.out q).1
        unfold dtM
        rw [hq]
        exact this
      have FIN := Lib.hid fin
      clear fin
      cases hq : t.quirks
      · rw [hq] at b6
        cases hn : (t.name.toList == [104, 116, 109, 108])
        · have ev : Hid ((t.quirks || !eqS t.name mHtml) = true) := Lib.hid (by rw [hq, eqS_lit, hn]; rfl)
          have hn' : (t.name.toList != [104, 116, 109, 108]) = true := by simp [bne, hn]
          go_wp2_with fail
          go_ret
          exact FIN.out _ ev.out
        · have ev : Hid ((t.quirks || !eqS t.name mHtml) = false) := Lib.hid (by rw [hq, eqS_lit, hn]; rfl)
          have hn' : (t.name.toList != [104, 116, 109, 108]) = false := by simp [bne, hn]
          go_wp2_with fail
          go_ret
          exact FIN.out _ ev.out
      · rw [hq] at b6
        have ev : Hid ((t.quirks || !eqS t.name mHtml) = true) := Lib.hid (by rw [hq]; rfl)
        go_wp2_with fail
        go_ret
        exact FIN.out _ ev.out
    · have EQ : Hid (stepM st t = ({ st with quirks := true, mode := 1 }, true)) := Lib.hid (by rw [EQ0.out, if_neg k1])
      have k1' : (t.kind == 1) = false := by simp [k1]
      have k1'' : (t.kind != 1) = true := by simp [k1]
      clear k1 EQ0
      go_wp2_with fail
      go_ret
      exact StepS.mk EQ.out ⟨rfl, c1, ⟨_, FT.out.1⟩, FT.out.2⟩
  · rw [if_pos rfl] at EQ0
    go_wp2_with fail
    go_ret
    exact StepS.mk EQ0.out ⟨rfl, c1, H1, (Mv.of_below HB0.out).trans m1⟩
end Go.Proofs.YtjmlkmlbhfkhbaaGreatDoor
namespace Go.Proofs.YtjmlkmlbhfkhbaaGreatDoor
open Go Go.RowKit

set_option maxRecDepth 100000 in
set_option maxHeartbeats 8000000 in
theorem rBefore1 {w : World} {c : Col} {h : Sd} {st : St} (H : SRep w c h st) {N : Nat} (wf : Wf N st) (hN : N ≤ 890000) (hs : st.stk.length ≤ 100) (t : Tok) (ht : TkOk w c t) (hm1 : st.mode = 1) :
    Calls Tryz.prog 96 #[.pointer (some ⟨h.g, 0, none⟩), t.val] w (StepS h (stepM st t) w c) := by
  have hb0 : Below w.heap.size w (w.alloc (.cells t.cells.toArray 24)) := below_alloc (Below.refl _ _) _
  have B0 := HB.new w 24 t.cells
  have BOX : Hid (∀ W C, Mv (PrS h) (w.alloc (.cells t.cells.toArray 24)) c W C → HB W w.heap.size 24 t.cells) := Lib.hid fun W C hm => B0.mvk hm (fun e => H.sd (by unfold PrS at e; rw [← e, H.gd _ (Nat.le_refl _)]))
  have HCZ : Hid ((c w.heap.size).1 = 0) := Lib.hid (H.gd _ (Nat.le_refl _))
  have EA := Lib.hid (rEarly (H.loc hb0) wf hN hs t (ht.loc hb0))
  have EQ0 : Hid (stepM st t = _) := Lib.hid (beforeR_eq (.inr (.inl hm1)) t).symm
  unfold beforeR at EQ0
  have hsd := H.sd
  have O : Hid (∀ (W : World) (C : Col), Mv (PrS h) w c W C → SRep W C h { st with mode := 2 } → ∀ (V : World), Below W.heap.size W V → ROps h { st with mode := 2 } t W C V) := Lib.hid fun W C hm H1 V hV => rops_of H1 (wf.modeS 2) hN hs t (ht.mvS hsd hm) hV
  have HB0 := Lib.hid hb0
  have HM := Lib.hid hm1
  clear H wf ht hs hb0 hm1 B0 hsd
  have EE : Hid (earlyB st.mode t = false → earlyM st t = st) := Lib.hid earlyM_not
  generalize hE : earlyB st.mode t = eb at *
  clear hE
  unfold Tok.val
  unfold Tok.val at EA
  unfold Tok.cells at *
  go_enter Tryz.func96, Tryz.ntmps96
  go_wp2_with fail
  refine EA.out.mono ?_
  rintro e w1 ⟨rfl, c1, H1, m1⟩
  clear EA
  cases eb
  · rw [EE.out rfl] at H1
    have hm0 : ¬ st.mode = 0 := by have := HM.out; omega
    rw [if_neg (by simp), if_neg hm0, if_pos HM.out] at EQ0
    clear hm0
    have B1 := BOX.out _ _ m1
    obtain ⟨X, HX⟩ := H1
    have f3 := HX.hb.frozen 3
    have l3 := HX.hb.lt
    obtain ⟨-, -, -, y3, -⟩ := HX.bc
    rw [HM.out] at y3
    have hne := HX.ne (g := w.heap.size) (by rw [m1.ext _ (by simp)]; exact HCZ.out)
    obtain ⟨S1, S2⟩ := setMode HX 2
    have mT := (Mv.of_below (S := PrS h) HB0.out).trans (m1.trans S2)
    have bl := B1.lt
    have D1 := Lib.hid (B1.setOther (a := ⟨h.g, 3, none⟩) hne (.int .i64 2))
    have O2 := Lib.hid (O.out _ _ mT ⟨_, S1⟩)
    have MT := Lib.hid mT
    have AF : Hid (∀ (s : St) (v : Value) (e : Ending) (V : World), OkS h s v (w1.setCell ⟨h.g, 3, none⟩ (.int .i64 2)) c1 e V → OkS h s v w c e V) := Lib.hid (by
      rintro s v e V ⟨he, c', h1, h2⟩
      exact ⟨he, c', h1, MT.out.trans h2⟩)
    obtain ⟨b0, b1, b2, b3, b4, b5, b6, b7, b8⟩ := B1.tok
    clear HX S1 S2 mT B1 m1 O
    go_wp2_with fail
    refine Calls.mono (rStarts _ t _ 1 [mHtml] (by decide) (by exact Strs.mk_ _ (by simp))) ?_
    rintro e w2 ⟨rfl, hb2⟩
    have hB2 := below_step (below_alloc (Below.refl (w1.setCell ⟨h.g, 3, none⟩ (.int .i64 2)).heap.size (w1.setCell ⟨h.g, 3, none⟩ (.int .i64 2))) _) hb2
    have B2 := (D1.out.alloc _).below hb2
    obtain ⟨d0, d1, d2, d3, d4, d5, d6, d7, d8⟩ := HB.tok B2
    clear b0 b1 b2 b3 b4 b5 b6 b7 b8 B2
    cases hT : startB t [mHtml]
    · rw [hT, if_neg (by simp)] at EQ0
      clear hT
      go_wp2_with fail
      refine ((O2.out _ hB2).imp mHtml).mono ?_
      intro e w3 ho
      obtain ⟨rfl, c3, H3, m3⟩ := AF.out _ _ _ _ ho
      go_wp2_with fail
      go_ret
      exact StepS.mk EQ0.out ⟨rfl, c3, H3, m3⟩
    · rw [hT, if_pos rfl] at EQ0
      clear hT
      go_wp2_with fail
      refine (O2.out _ hB2).ins.mono ?_
      intro e w3 ho
      obtain ⟨rfl, c3, H3, m3⟩ := AF.out _ _ _ _ ho
      go_wp2_with fail
      go_ret
      exact StepS.mk EQ0.out ⟨rfl, c3, H3, m3⟩
  · rw [if_pos rfl] at EQ0
    go_wp2_with fail
    go_ret
    exact StepS.mk EQ0.out ⟨rfl, c1, H1, (Mv.of_below HB0.out).trans m1⟩

set_option maxRecDepth 100000 in
set_option maxHeartbeats 8000000 in
theorem rBefore2 {w : World} {c : Col} {h : Sd} {st : St} (H : SRep w c h st) {N : Nat} (wf : Wf N st) (hN : N ≤ 890000) (hs : st.stk.length ≤ 100) (t : Tok) (ht : TkOk w c t) (hm2 : st.mode = 2)
    (h0 : 0 < st.stk.length) (hno : lastOf st.stk [nTemplate] < 0) :
    Calls Tryz.prog 96 #[.pointer (some ⟨h.g, 0, none⟩), t.val] w (StepS h (stepM st t) w c) := by
  have hb0 : Below w.heap.size w (w.alloc (.cells t.cells.toArray 24)) := below_alloc (Below.refl _ _) _
  have B0 := HB.new w 24 t.cells
  have BOX : Hid (∀ W C, Mv (PrS h) (w.alloc (.cells t.cells.toArray 24)) c W C → HB W w.heap.size 24 t.cells) := Lib.hid fun W C hm => B0.mvk hm (fun e => H.sd (by unfold PrS at e; rw [← e, H.gd _ (Nat.le_refl _)]))
  have HCZ : Hid ((c w.heap.size).1 = 0) := Lib.hid (H.gd _ (Nat.le_refl _))
  have EA := Lib.hid (rEarly (H.loc hb0) wf hN hs t (ht.loc hb0))
  have EQ0 : Hid (stepM st t = _) := Lib.hid (beforeR_eq (.inr (.inr hm2)) t).symm
  unfold beforeR at EQ0
  have hsd := H.sd
  have O : Hid (∀ (W : World) (C : Col), Mv (PrS h) w c W C → SRep W C h { st with mode := 3 } → ∀ (V : World), Below W.heap.size W V → ROps h { st with mode := 3 } t W C V) := Lib.hid fun W C hm H1 V hV => rops_of H1 (wf.modeS 3) hN hs t (ht.mvS hsd hm) hV
  have LA : Hid (∀ (W : World) (C : Col), Mv (PrS h) w c W C → SRep W C h st → Calls Tryz.prog 143 #[.pointer (some ⟨h.g, 0, none⟩), t.val] W (OkS h (htmlM st t) (.tuple #[]) W C)) := Lib.hid fun W C hm H1 => rLacks H1 wf hN hs h0 hno t (ht.mvS hsd hm)
  have HB0 := Lib.hid hb0
  have HM := Lib.hid hm2
  clear H wf ht hs hb0 hm2 B0 hsd h0 hno
  have EE : Hid (earlyB st.mode t = false → earlyM st t = st) := Lib.hid earlyM_not
  generalize hE : earlyB st.mode t = eb at *
  clear hE
  unfold Tok.val
  unfold Tok.val at EA
  unfold Tok.cells at *
  go_enter Tryz.func96, Tryz.ntmps96
  go_wp2_with fail
  refine EA.out.mono ?_
  rintro e w1 ⟨rfl, c1, H1, m1⟩
  clear EA
  cases eb
  · rw [EE.out rfl] at H1
    have hm0 : ¬ st.mode = 0 := by have := HM.out; omega
    have hm1 : ¬ st.mode = 1 := by have := HM.out; omega
    rw [if_neg (by simp), if_neg hm0, if_neg hm1] at EQ0
    clear hm0 hm1
    have B1 := BOX.out _ _ m1
    have RR := Lib.hid (And.intro H1 ((Mv.of_below (S := PrS h) HB0.out).trans m1))
    have M1 := Lib.hid m1
    obtain ⟨X, HX⟩ := H1
    obtain ⟨-, -, -, y3, -⟩ := HX.bc
    rw [HM.out] at y3
    obtain ⟨b0, b1, b2, b3, b4, b5, b6, b7, b8⟩ := B1.tok
    clear HX m1
    go_wp2_with fail
    refine Calls.mono (rStarts _ t _ 1 [mHtml] (by decide) (by exact Strs.mk_ _ (by simp))) ?_
    rintro e w2 ⟨rfl, hb2⟩
    have hB2 := below_step (below_alloc (Below.refl w1.heap.size w1) _) hb2
    have B2 := (B1.alloc _).below hb2
    clear b0 b1 b2 b3 b4 b5 b6 b7 b8 B1 y3
    have M2 := Lib.hid (RR.out.2.trans (Mv.of_below hB2))
    have H2 := RR.out.1.loc hB2
    cases hT : startB t [mHtml]
    · rw [hT, if_neg (by simp)] at EQ0
      clear hT LA
      obtain ⟨X, HX⟩ := H2
      have f3 := HX.hb.frozen 3
      have l3 := HX.hb.lt
      obtain ⟨-, -, -, y3, -⟩ := HX.bc
      have mz := M1.out.trans (Mv.of_below hB2)
      have hne := HX.ne (g := w.heap.size) (by rw [mz.ext _ (by simp)]; exact HCZ.out)
      obtain ⟨S1, S2⟩ := setMode HX 3
      have mT := M2.out.trans S2
      have bl := B2.lt
      have D1 := Lib.hid (B2.setOther (a := ⟨h.g, 3, none⟩) hne (.int .i64 3))
      have O2 := Lib.hid (O.out _ _ mT ⟨_, S1⟩)
      have MT := Lib.hid mT
      have AF : Hid (∀ (s : St) (v : Value) (e : Ending) (V : World), OkS h s v (w2.setCell ⟨h.g, 3, none⟩ (.int .i64 3)) c1 e V → OkS h s v w c e V) := Lib.hid (by
        rintro s v e V ⟨he, c', h1, h2⟩
        exact ⟨he, c', h1, MT.out.trans h2⟩)
      obtain ⟨b0, b1, b2, b3, b4, b5, b6, b7, b8⟩ := HB.tok B2
      clear HX S1 S2 mT B2 mz O RR
      go_wp2_with fail
      refine Calls.mono (rStarts _ t _ 1 [mHead] (by decide) (by exact Strs.mk_ _ (by simp))) ?_
      rintro e w3 ⟨rfl, hb3⟩
      have hB3 := below_step (below_alloc (Below.refl (w2.setCell ⟨h.g, 3, none⟩ (.int .i64 3)).heap.size (w2.setCell ⟨h.g, 3, none⟩ (.int .i64 3))) _) hb3
      have B3 := (D1.out.alloc _).below hb3
      obtain ⟨d0, d1, d2, d3, d4, d5, d6, d7, d8⟩ := HB.tok B3
      clear b0 b1 b2 b3 b4 b5 b6 b7 b8 B3
      cases hD : startB t [mHead]
      · rw [hD, if_neg (by simp)] at EQ0
        clear hD
        go_wp2_with fail
        refine ((O2.out _ hB3).imp mHead).mono ?_
        intro e w4 ho
        obtain ⟨rfl, c4, ⟨Y, HY⟩, m4⟩ := AF.out _ _ _ _ ho
        have f6 := HY.hb.frozen 6
        have l6 := HY.hb.lt
        obtain ⟨-, -, -, -, -, -, y6, -⟩ := HY.bc
        obtain ⟨S1, S2⟩ := setHeadS HY st.ns.length
        have FIN := Lib.hid (And.intro S1 (m4.trans S2))
        clear HY S1 S2 m4 ho
        go_wp2_with fail
        go_ret
        exact StepS.mk EQ0.out ⟨rfl, c4, ⟨Y, FIN.out.1⟩, FIN.out.2⟩
      · rw [hD, if_pos rfl] at EQ0
        clear hD
        go_wp2_with fail
        refine (O2.out _ hB3).ins.mono ?_
        intro e w4 ho
        obtain ⟨rfl, c4, ⟨Y, HY⟩, m4⟩ := AF.out _ _ _ _ ho
        have f6 := HY.hb.frozen 6
        have l6 := HY.hb.lt
        obtain ⟨-, -, -, -, -, -, y6, -⟩ := HY.bc
        obtain ⟨S1, S2⟩ := setHeadS HY st.ns.length
        have FIN := Lib.hid (And.intro S1 (m4.trans S2))
        clear HY S1 S2 m4 ho
        go_wp2_with fail
        go_ret
        exact StepS.mk EQ0.out ⟨rfl, c4, ⟨Y, FIN.out.1⟩, FIN.out.2⟩
    · rw [hT, if_pos rfl] at EQ0
      clear hT
      have LH := Lib.hid (LA.out _ _ M2.out H2)
      obtain ⟨b0, b1, b2, b3, b4, b5, b6, b7, b8⟩ := HB.tok B2
      clear H2 LA O B2
      go_wp2_with fail
      refine LH.out.mono ?_
      rintro e w3 ⟨rfl, c3, H3, m3⟩
      go_wp2_with fail
      go_ret
      exact StepS.mk EQ0.out ⟨rfl, c3, H3, M2.out.trans m3⟩
  · rw [if_pos rfl] at EQ0
    go_wp2_with fail
    go_ret
    exact StepS.mk EQ0.out ⟨rfl, c1, H1, (Mv.of_below HB0.out).trans m1⟩
end Go.Proofs.YtjmlkmlbhfkhbaaGreatDoor
namespace Go.Proofs.YtjmlkmlbhfkhbaaGreatDoor
open Go Go.RowKit

theorem Shp.ask {st : St} (h : Shp st) (q : Option (Int × Str)) : Shp { st with ask := q } := by
  cases h with
  | start a b c => exact .start a b c
  | html a b c d => exact .html a b c d
  | head a b c d e f g => exact .head a b c d e f g
  | raw a b l r h1 h2 h3 h4 h5 h6 h7 h8 => exact .raw a b l r h1 h2 h3 h4 h5 h6 h7 h8
  | body a b d h1 h2 h3 h4 h5 => exact .body a b d h1 h2 h3 h4 h5
  | tmpl a => exact .tmpl a
theorem Inv.ask {N : Nat} {st : St} (h : Inv N st) (q : Option (Int × Str)) : Inv N { st with ask := q } :=
  ⟨h.wf.same rfl rfl rfl, h.shp.ask q, h.em.of rfl rfl rfl⟩

/-- The lists' lengths of a state behind another. -/
structure Lens (n : Nat) (st st' : St) : Prop where
  stk : st'.stk.length ≤ st.stk.length + n
  fmt : st'.fmt.length ≤ st.fmt.length + n
  modes : st'.modes.length ≤ st.modes.length + n
theorem Lens.refl (n : Nat) (st : St) : Lens n st st := ⟨by omega, by omega, by omega⟩
theorem Lens.ins (st : St) (t : Tok) : Lens 1 st (insM st t 0) := ⟨by simp [insM], by simp [insM], by simp [insM]⟩
theorem Lens.more {n m : Nat} {st st' : St} (h : Lens n st st') (hm : n ≤ m) : Lens m st st' := ⟨by have := h.stk; omega, by have := h.fmt; omega, by have := h.modes; omega⟩
theorem Lens.trans {n m : Nat} {a b d : St} (h : Lens n a b) (k : Lens m b d) : Lens (n + m) a d := ⟨by have := h.stk; have := k.stk; omega, by have := h.fmt; have := k.fmt; omega, by have := h.modes; have := k.modes; omega⟩
theorem Lens.of {n : Nat} {st s s' : St} (h : Lens n st s) (e1 : s'.stk = s.stk) (e2 : s'.fmt = s.fmt) (e3 : s'.modes = s.modes) : Lens n st s' :=
  ⟨by rw [e1]; exact h.stk, by rw [e2]; exact h.fmt, by rw [e3]; exact h.modes⟩

theorem Lens.chars (st : St) (s : Str) : Lens 0 st (chM st s) := by
  unfold chM
  split
  · exact .refl _ _
  · exact (Lens.refl 0 st).of rfl rfl rfl
theorem Lens.com (st : St) (s : Str) (p : Nat) : Lens 0 st (cmM st s p) := (Lens.refl 0 st).of rfl rfl rfl
theorem Lens.html (st : St) (t : Tok) : Lens 0 st (htmlM st t) := by
  unfold htmlM
  split
  · exact .refl _ _
  · split
    · exact (Lens.refl 0 st).of rfl rfl rfl
    · exact .refl _ _
theorem Lens.drop (st : St) (m : Int) : Lens 0 st { st with stk := st.stk.dropLast, mode := m } := ⟨by simp, Nat.le_refl _, Nat.le_refl _⟩
theorem Lens.own {st : St} (t : Tok) (hno : lastOf st.stk [nTemplate] < 0) : Lens 1 st (ownM st t) := by
  unfold ownM
  split
  · unfold tmplM
    split
    · exact ⟨by simp [insM], by simp [insM], by simp [insM]⟩
    · rw [if_neg (by omega)]; exact .refl _ _
  · repeat' split
    all_goals first
      | exact (Lens.ins st t).of rfl rfl rfl
      | exact (Lens.refl 1 st).of rfl rfl rfl
theorem Lens.head {st : St} (t : Tok) (hno : lastOf st.stk [nTemplate] < 0) : Lens 1 st (headM st t).1 := by
  unfold headM
  repeat' split
  · exact .refl _ _
  · exact (Lens.chars _ _).more (by omega)
  · exact (Lens.com _ _ _).more (by omega)
  · exact (Lens.html _ _).more (by omega)
  · exact .own t hno
  · exact (Lens.ins st t).of rfl rfl rfl
  · exact .refl _ _
  · exact .refl _ _
  · exact (Lens.drop _ _).more (by omega)
theorem Lens.push (st : St) : Lens 1 st (pushM st) := by
  unfold pushM
  split
  · exact ⟨by simp, by simp, by simp⟩
  · exact .refl _ _
theorem Lens.rem (st : St) : Lens 0 st (remM st) := by
  unfold remM
  split
  · exact .refl _ _
  · exact ⟨by show (st.stk.eraseIdx _).length ≤ _; rw [List.length_eraseIdx]; split <;> omega, Nat.le_refl _, Nat.le_refl _⟩

set_option maxHeartbeats 1000000 in
theorem Lens.step {N : Nat} {st : St} (inv : Inv N st) (ho : ownB st.mode = true) (t : Tok) : Lens 2 st (stepM st t).1 := by
  have hno : lastOf st.stk [nTemplate] < 0 := by have := inv.shp.no_tmpl ho; omega
  unfold stepM
  by_cases m0 : st.mode = 0
  · rw [if_pos m0]
    unfold initialM
    repeat' split
    · exact .refl _ _
    · exact (Lens.com _ _ _).more (by omega)
    · exact (Lens.refl 2 st).of rfl rfl rfl
    · exact (Lens.refl 2 st).of rfl rfl rfl
  rw [if_neg m0]
  by_cases m1 : st.mode = 1
  · rw [if_pos m1]
    unfold befHtmlM
    repeat' split
    · exact (Lens.com _ _ _).more (by omega)
    · exact .refl _ _
    · exact .refl _ _
    · exact .refl _ _
    · exact Lens.more (n := 1) ((Lens.ins st t).of rfl rfl rfl) (by decide)
    · exact Lens.more (n := 1) ((Lens.ins st (impTok mHtml)).of rfl rfl rfl) (by decide)
  rw [if_neg m1]
  by_cases m2 : st.mode = 2
  · rw [if_pos m2]
    unfold befHeadM
    repeat' split
    · exact (Lens.com _ _ _).more (by omega)
    · exact .refl _ _
    · exact .refl _ _
    · exact .refl _ _
    · exact (Lens.html _ _).more (by omega)
    · exact Lens.more (n := 1) ((Lens.ins st t).of rfl rfl rfl) (by decide)
    · exact Lens.more (n := 1) ((Lens.ins st (impTok mHead)).of rfl rfl rfl) (by decide)
  rw [if_neg m2]
  by_cases m3 : st.mode = 3
  · rw [if_pos m3]
    exact (Lens.head t hno).more (by omega)
  rw [if_neg m3]
  by_cases m4 : st.mode = 4
  · rw [if_pos m4]
    unfold noscriptM
    repeat' split
    all_goals first
      | exact .refl _ _
      | exact (Lens.head t hno).more (by omega)
      | exact (Lens.drop _ _).more (by omega)
  rw [if_neg m4]
  by_cases m5 : st.mode = 5
  · rw [if_pos m5]
    obtain ⟨a, b, hs, hT, hb, hab, hh⟩ := aft_shape inv m5
    have hp := pushM_eq hb hh
    have hno2 : lastOf (pushM st).stk [nTemplate] < 0 := by
      have hst : (pushM st).stk = [⟨(a : Int), 0, mHtml⟩, ⟨(b : Int), 0, mHead⟩] := by rw [hp]; show st.stk ++ _ = _; rw [hs]; rfl
      rw [hst, Go.Proofs.YtjmlkmlbhfkhbaaGreatDoor.no_tmpl (by simp [tmpl_html, tmpl_head])]; decide
    have key : Lens 2 st (remM (ownM (pushM st) t)) := ((Lens.push st).trans (Lens.own t hno2)).trans (Lens.rem _)
    have hd : Lens 2 st (headM st t).1 := (Lens.head t hno).more (by decide)
    unfold aftHeadM
    split
    · exact (Lens.chars _ _).more (by decide)
    · split
      · exact (Lens.com _ _ _).more (by decide)
      · split
        · exact .refl _ _
        · split
          · exact .refl _ _
          · split
            · exact (Lens.html _ _).more (by decide)
            · split
              · exact Lens.more (n := 1) ((Lens.ins st t).of rfl rfl rfl) (by decide)
              · split
                · exact hd
                · split
                  · exact key
                  · split
                    · exact .refl _ _
                    · split
                      · exact .refl _ _
                      · exact Lens.more (n := 1) ((Lens.ins st (impTok mBody)).of rfl rfl rfl) (by decide)
  rw [if_neg m5]
  split
  · unfold txtM
    split
    · exact (Lens.chars _ _).more (by omega)
    · exact (Lens.drop _ _).more (by omega)
  · exact .refl _ _
end Go.Proofs.YtjmlkmlbhfkhbaaGreatDoor
namespace Go.Proofs.YtjmlkmlbhfkhbaaGreatDoor
open Go Go.RowKit

abbrev eofT : Tok := tagTok 8 ⟨#[]⟩
abbrev cmT : Tok := { tagTok 4 ⟨#[]⟩ with text := ⟨#[99]⟩ }
def cA : St := doesM 20 st0 eofT
def cB1 : St := doesM 20 st0 (tagTok 1 mHtml)
def cB2 : St := doesM 20 cB1 cmT
def cB3 : St := doesM 20 cB2 (tagTok 2 mHtml)
def cB4 : St := doesM 20 cB3 (tagTok 2 nTitle)
def cB5 : St := { cB4 with ask := none }
def cC1 : St := doesM 20 st0 (tagTok 2 mHtml)
def cC2 : St := doesM 20 cC1 (tagTok 2 mHead)
def cC3 : St := doesM 20 cC2 (tagTok 2 nTemplate)
def cC4 : St := (headM cC3 (tagTok 3 nTemplate)).1

theorem inv0 : Inv 1 st0 := ⟨Wf.st0, .start (.inl rfl) rfl rfl, .inr ⟨rfl, rfl⟩⟩
theorem sm_tag {k : Int} {nm : Str} (h : nm.size ≤ 300) : TkSm (tagTok k nm) := ⟨h, Nat.zero_le _, Nat.zero_le _⟩
theorem sm_cm : TkSm cmT := ⟨by decide, by decide, by decide⟩
theorem iA : Inv 20061 cA := inv0.does (sm_tag (by decide)) 20
theorem iB1 : Inv 20061 cB1 := inv0.does (sm_tag (by decide)) 20
theorem iB2 : Inv 40121 cB2 := iB1.does sm_cm 20
theorem iB3 : Inv 60181 cB3 := iB2.does (sm_tag (by decide)) 20
theorem iB4 : Inv 80241 cB4 := iB3.does (sm_tag (by decide)) 20
theorem iC1 : Inv 20061 cC1 := inv0.does (sm_tag (by decide)) 20
theorem iC2 : Inv 40121 cC2 := iC1.does (sm_tag (by decide)) 20
theorem iC3 : Inv 60181 cC3 := iC2.does (sm_tag (by decide)) 20

theorem fA : cA.quirks = true ∧ cA.mode = 6 ∧ cA.stk.length = 2 := by decide +kernel
theorem fB : cB5.quirks = false ∧ cB5.mode = 7 ∧ cB5.ns.length = 6 := by decide +kernel
theorem fB0 : (cB5.ns[0]?).map (·.kids) = some [1, 2, 3] := by decide +kernel
theorem fB2 : (cB5.ns[2]?).map (·.kind) = some 5 := by decide +kernel
theorem fBask : cB4.ask = some (1, nTitle) := by
  have h : cB4.ask.map (fun p => (p.1, p.2.data.toList)) = some (1, nTitle.data.toList) := by decide +kernel
  cases ha : cB4.ask with
  | none => rw [ha] at h; cases h
  | some p =>
    obtain ⟨s, ⟨⟨n⟩⟩⟩ := p
    rw [ha] at h
    simp at h
    obtain ⟨rfl, rfl⟩ := h
    rfl
theorem fC3 : cC3.mode = 15 ∧ cC3.fmt = [-1] ∧ cC3.modes = [15] ∧ cC3.stk.length = 3 := by decide +kernel
theorem fC3n : (cC3.ns.all fun n => decide (n.name.size ≤ 1000)) = true := by decide +kernel
theorem fC3t : ∃ (l : List OpE) (n : Int), cC3.stk = l ++ [⟨n, 0, nTemplate⟩] ∧ l.length = 2 := by
  have h : (cC3.stk.map (fun o => (o.space, o.name.data.toList)))[2]? = some (0, nTemplate.data.toList) := by decide +kernel
  have hl := fC3.2.2.2
  match hs : cC3.stk, hl with
  | [a, b, ⟨n, s, ⟨⟨nm⟩⟩⟩], _ =>
    rw [hs] at h
    simp at h
    obtain ⟨rfl, rfl⟩ := h
    exact ⟨[a, b], n, rfl, rfl⟩
theorem fC4 : cC4.mode = 3 ∧ 3 < cC4.ns.length := by decide +kernel
theorem fC43 : (cC4.ns[3]?).map (·.content) = some 4 := by decide +kernel
theorem fC4s : (cC4.ns.all fun n => decide (n.attrs.length ≤ 1000) && decide (n.kids.length ≤ 1000) && decide (n.text.size ≤ 1000)) = true ∧ cC4.ns.length ≤ 1000 := by decide +kernel
theorem szC4 : Sz 1000 cC4 := by
  refine ⟨fC4s.2, by have := fC4.2; omega, fun i n hi => ?_⟩
  have := List.all_eq_true.1 fC4s.1 n (List.mem_of_getElem? hi)
  simp at this
  exact ⟨this.1.1, this.1.2, this.2⟩
end Go.Proofs.YtjmlkmlbhfkhbaaGreatDoor
