/-
  The reference's after (99).
  The reference's Step (56).
  The law's does (52).
-/
import Derived.Test.YtjmlkmlbhfkhbaaGreatDoorHp29
import Derived.Test.YtjmlkmlbhfkhbaaGreatDoorHp33
import Derived.Test.YtjmlkmlbhfkhbaaGreatDoorHp30
set_option linter.unusedSimpArgs false
set_option linter.unusedVariables false
namespace Go.Proofs.YtjmlkmlbhfkhbaaGreatDoor
open Go Go.RowKit

/-- What after does with a token that belongs to a head, behind the head's push. -/
theorem aft_belS {w : World} {c : Col} {h : Sd} {st : St} (H : SRep w c h (pushM st)) {N : Nat} (wp : Wf N (pushM st)) (hN : N ≤ 890000) (hs : (pushM st).stk.length ≤ 100) (hf : (pushM st).fmt.length < 64) (hm : (pushM st).modes = []) (t : Tok) (ht : TkOk w c t)
    {b : Nat} (hh : st.head = (b : Int)) (hno : lastOf (pushM st).stk [nTemplate] < 0) (hbel : belB t = true)
    (hrm : (ownM (pushM st) t).head = st.head ∧ (ownM (pushM st) t).stk.length ≤ 1000 ∧ ∃ k : Nat, ixFrom (ownM (pushM st) t).stk st.head (ownM (pushM st) t).stk.length = (k : Int)) :
    Calls Tryz.prog 147 #[.pointer (some ⟨h.g, 0, none⟩), t.val] w (fun e w2 => e = .returned (.tuple #[]) ∧ w2.cell? ⟨h.g, 6, none⟩ = some (.int .i64 b) ∧
      Calls Tryz.prog 150 #[.pointer (some ⟨h.g, 0, none⟩), .int .i64 b] w2 (OkS h (remM (ownM (pushM st) t)) (.tuple #[]) w c)) := by
  refine (rOwn H wp hN hs hf hm t ht hno hbel).mono ?_
  rintro e w2 ⟨rfl, c2, H2, m2⟩
  obtain ⟨r1, r2, k, r3⟩ := hrm
  have he : remM (ownM (pushM st) t) = { ownM (pushM st) t with stk := (ownM (pushM st) t).stk.eraseIdx k } := by
    have r4 : ixFrom (ownM (pushM st) t).stk (ownM (pushM st) t).head (ownM (pushM st) t).stk.length = (k : Int) := by rw [r1]; exact r3
    unfold remM
    rw [r4, if_neg (by omega), Int.toNat_natCast]
  rw [he]
  rw [hh] at r3
  refine ⟨rfl, ?_, (rClose H2 (by omega) (b : Int) k r3).mono ?_⟩
  · obtain ⟨X, HX⟩ := H2
    obtain ⟨-, -, -, -, -, -, y6, -⟩ := HX.bc
    rw [r1, hh] at y6
    exact y6
  · rintro e w3 ⟨rfl, c3, H3, m3⟩
    exact ⟨rfl, c3, H3, m2.trans m3⟩

set_option maxRecDepth 100000 in
set_option maxHeartbeats 16000000 in
theorem rAfter {w : World} {c : Col} {h : Sd} {st : St} (H : SRep w c h st) {N : Nat} (wf : Wf N st) (hN : N ≤ 890000) (hs : st.stk.length ≤ 90) (hf : st.fmt.length < 64) (hmd : st.modes = []) (t : Tok) (ht : TkOk w c t)
    (h0 : 0 < st.stk.length) (hno : lastOf st.stk [nTemplate] < 0) {b : Nat} (hb : IsEl st.ns b mHead) (hh : st.head = (b : Int)) (hno2 : lastOf (pushM st).stk [nTemplate] < 0)
    (hrm : belB t = true → (ownM (pushM st) t).head = st.head ∧ (ownM (pushM st) t).stk.length ≤ 1000 ∧ ∃ k : Nat, ixFrom (ownM (pushM st) t).stk st.head (ownM (pushM st) t).stk.length = (k : Int)) :
    Calls Tryz.prog 99 #[.pointer (some ⟨h.g, 0, none⟩), t.val] w (StepS h (aftHeadM st t) w c) := by
  have O := Lib.hid (fun (W : World) (hb : Below w.heap.size w W) => rops_of H wf hN (show st.stk.length ≤ 100 by omega) t ht hb)
  have HD := Lib.hid (fun (W : World) (hb : Below w.heap.size w W) => (rHead (H.loc hb) wf hN (by omega) hf hmd t (ht.loc hb) h0 hno).mono fun e w2 (ho : OkS h (headM st t).1 (.bool (headM st t).2) W c e w2) => ho.after hb)
  have hpe := pushM_eq hb hh
  have hsd := H.sd
  have wp : Wf N (pushM st) := by
    obtain ⟨n, h1, h2, h3, h4⟩ := hb
    have := wf.push h1 h2
    rw [h4, h3] at this
    rw [hpe]; exact this
  have AB : Hid (belB t = true → ∀ (W : World) (C : Col), Mv (PrS h) w c W C → SRep W C h (pushM st) → Calls Tryz.prog 147 #[.pointer (some ⟨h.g, 0, none⟩), t.val] W (fun e w2 => e = .returned (.tuple #[]) ∧ w2.cell? ⟨h.g, 6, none⟩ = some (.int .i64 b) ∧
      Calls Tryz.prog 150 #[.pointer (some ⟨h.g, 0, none⟩), .int .i64 b] w2 (OkS h (remM (ownM (pushM st) t)) (.tuple #[]) W C))) := Lib.hid fun hl W C hm H1 =>
    aft_belS H1 wp hN (by rw [hpe]; simp; omega) (by rw [hpe]; exact hf) (by rw [hpe]; exact hmd) t (ht.mvS hsd hm) hh hno2 hl (hrm hl)
  have PE := Lib.hid hpe
  have HH := Lib.hid hh
  have hb0 : Below w.heap.size w (w.alloc (.cells t.cells.toArray 24)) := below_alloc (Below.refl _ _) _
  have B0 := HB.new w 24 t.cells
  have HCZ : Hid ((c w.heap.size).1 = 0) := Lib.hid (H.gd _ (Nat.le_refl _))
  have HSL : Hid (st.stk.length ≤ 90) := Lib.hid hs
  obtain ⟨b0, b1, b2, b3, b4, b5, b6, b7, b8⟩ := B0.tok
  clear H wf ht hs hf hmd h0 hno hb hh hno2 hrm wp hpe hsd
  have EQ0 := Lib.hid (afterR_eq st t).symm
  unfold afterR at EQ0
  have fin : ∀ (V : World) (c4 : Col) (m : Int) (x : SSh) (s : St) (r : Bool), aftHeadM st t = ({ s with mode := m }, r) → SRepX V c4 h x s → Mv (PrS h) w c V c4 → StepS h (aftHeadM st t) w c (.returned (.bool r)) (V.setCell ⟨h.g, 3, none⟩ (.int .i64 m)) := by
    intro V c4 m x s r hq HX hm
    obtain ⟨S1, S2⟩ := setMode HX m
    exact StepS.mk hq ⟨rfl, c4, ⟨x, S1⟩, hm.trans S2⟩
  have FIN := Lib.hid fin
  clear fin
  by_cases k5 : t.kind = 5
  · have EQ : Hid (aftHeadM st t = headM st t) := Lib.hid (by rw [EQ0.out, if_pos k5])
    have k5' : (t.kind == 5) = true := by simp [k5]
    clear k5 EQ0
    unfold Tok.val Tok.cells
    go_enter Tryz.func99, Tryz.ntmps99
    go_wp2_with fail
    refine (HD.out _ hb0).mono ?_
    rintro e w3 ⟨rfl, c3, H3, m3⟩
    go_wp2_with fail
    go_ret
    exact StepS.cong EQ.out ⟨rfl, c3, H3, m3⟩
  rw [if_neg k5] at EQ0
  have k5' : (t.kind == 5) = false := by simp [k5]
  clear k5
  by_cases k4 : t.kind = 4
  · have EQ : Hid (aftHeadM st t = headM st t) := Lib.hid (by rw [EQ0.out, if_pos k4])
    have k4' : (t.kind == 4) = true := by simp [k4]
    clear k4 EQ0
    unfold Tok.val Tok.cells
    go_enter Tryz.func99, Tryz.ntmps99
    go_wp2_with fail
    refine (HD.out _ hb0).mono ?_
    rintro e w3 ⟨rfl, c3, H3, m3⟩
    go_wp2_with fail
    go_ret
    exact StepS.cong EQ.out ⟨rfl, c3, H3, m3⟩
  rw [if_neg k4] at EQ0
  have k4' : (t.kind == 4) = false := by simp [k4]
  clear k4
  unfold Tok.val Tok.cells
  go_enter Tryz.func99, Tryz.ntmps99
  go_wp2_with fail
  refine Calls.mono (rStarts _ t _ 1 [mHtml] (by decide) (by exact Strs.mk_ _ (by simp))) ?_
  rintro e w1 ⟨rfl, hb1⟩
  have hB1 := below_step (below_alloc hb0 _) hb1
  have B1 := (B0.alloc _).below hb1
  obtain ⟨d0, d1, d2, d3, d4, d5, d6, d7, d8⟩ := B1.tok
  clear b0 b1 b2 b3 b4 b5 b6 b7 b8
  cases hT : startB t [mHtml]
  · rw [hT, if_neg (by simp)] at EQ0
    clear hT
    go_wp2_with fail
    refine Calls.mono (rEnds _ t _ 1 [nTemplate] (by decide) (by exact Strs.mk_ _ (by simp))) ?_
    rintro e w2 ⟨rfl, hb2⟩
    have hB2 := below_step (below_alloc hB1 _) hb2
    have B2 := (B1.alloc _).below hb2
    obtain ⟨b0, b1, b2, b3, b4, b5, b6, b7, b8⟩ := B2.tok
    clear d0 d1 d2 d3 d4 d5 d6 d7 d8 B1
    cases hE : endB t [nTemplate]
    · rw [hE, if_neg (by simp)] at EQ0
      clear hE HD
      by_cases k1 : t.kind = 1
      · have EQ : Hid (aftHeadM st t = (st, false)) := Lib.hid (by rw [EQ0.out, if_pos k1])
        have k1' : (t.kind == 1) = true := by simp [k1]
        clear k1 EQ0
        go_wp2_with fail
        go_ret
        exact StepS.mk EQ.out ⟨rfl, c, (O.out _ hB2).rep, Mv.of_below hB2⟩
      rw [if_neg k1] at EQ0
      have k1' : (t.kind == 1) = false := by simp [k1]
      clear k1
      go_wp2_with fail
      refine Calls.mono (rStarts _ t _ 2 [mHead, mFrameset] (by decide) (by exact Strs.mk_ _ (by simp))) ?_
      rintro e w3 ⟨rfl, hb3⟩
      have hB3 := below_step (below_alloc hB2 _) hb3
      have B3 := (B2.alloc _).below hb3
      obtain ⟨d0, d1, d2, d3, d4, d5, d6, d7, d8⟩ := B3.tok
      clear b0 b1 b2 b3 b4 b5 b6 b7 b8 B2
      cases hF : startB t [mHead, mFrameset]
      · rw [hF, if_neg (by simp)] at EQ0
        clear hF
        go_wp2_with fail
        refine Calls.mono (rStrange _ t) ?_
        rintro e w4 ⟨rfl, hb4⟩
        have hB4 := below_step hB3 hb4
        have B4 := B3.below hb4
        obtain ⟨b0, b1, b2, b3, b4, b5, b6, b7, b8⟩ := B4.tok
        clear d0 d1 d2 d3 d4 d5 d6 d7 d8 B3
        cases hS : strangeB t
        · rw [hS, if_neg (by simp)] at EQ0
          clear hS
          go_wp2_with fail
          refine Calls.mono (rEnds _ t _ 1 [mHead] (by decide) (by exact Strs.mk_ _ (by simp))) ?_
          rintro e w5 ⟨rfl, hb5⟩
          have hB5 := below_step (below_alloc hB4 _) hb5
          have B5 := (B4.alloc _).below hb5
          obtain ⟨d0, d1, d2, d3, d4, d5, d6, d7, d8⟩ := B5.tok
          clear b0 b1 b2 b3 b4 b5 b6 b7 b8 B4
          cases hD : endB t [mHead]
          · rw [hD, if_neg (by simp)] at EQ0
            clear hD
            go_wp2_with fail
            refine Calls.mono (rBelongs _ t) ?_
            rintro e w6 ⟨rfl, hb6⟩
            have hB6 := below_step hB5 hb6
            have B6 := B5.below hb6
            obtain ⟨b0, b1, b2, b3, b4, b5, b6, b7, b8⟩ := B6.tok
            clear d0 d1 d2 d3 d4 d5 d6 d7 d8 B5
            cases hL : belB t
            · rw [hL, if_neg (by simp)] at EQ0
              clear hL AB
              go_wp2_with fail
              refine Calls.mono (rStarts _ t _ 1 [mBody] (by decide) (by exact Strs.mk_ _ (by simp))) ?_
              rintro e w7 ⟨rfl, hb7⟩
              have hB7 := below_step (below_alloc hB6 _) hb7
              have B7 := (B6.alloc _).below hb7
              obtain ⟨d0, d1, d2, d3, d4, d5, d6, d7, d8⟩ := B7.tok
              clear b0 b1 b2 b3 b4 b5 b6 b7 b8 B6
              cases hY : startB t [mBody]
              · rw [hY, if_neg (by simp)] at EQ0
                clear hY
                go_wp2_with fail
                refine ((O.out _ hB7).imp mBody).mono ?_
                rintro e w8 ⟨rfl, c8, ⟨X, HX⟩, m8⟩
                have f3 := HX.hb.frozen 3
                have l3 := HX.hb.lt
                obtain ⟨-, -, -, y3, -⟩ := HX.bc
                have F8 := Lib.hid (FIN.out _ _ _ X _ _ EQ0.out HX m8)
                clear HX m8
                go_wp2_with fail
                go_ret
                exact F8.out
              · rw [hY, if_pos rfl] at EQ0
                clear hY
                go_wp2_with fail
                refine (O.out _ hB7).ins.mono ?_
                rintro e w8 ⟨rfl, c8, ⟨X, HX⟩, m8⟩
                have f3 := HX.hb.frozen 3
                have l3 := HX.hb.lt
                obtain ⟨-, -, -, y3, -⟩ := HX.bc
                have F8 := Lib.hid (FIN.out _ _ _ X _ _ EQ0.out HX m8)
                clear HX m8
                go_wp2_with fail
                go_ret
                exact F8.out
            · have EQ : Hid (aftHeadM st t = (remM (ownM (pushM st) t), false)) := Lib.hid (by rw [EQ0.out, hL, if_pos rfl])
              have AB1 := Lib.hid (AB.out hL)
              clear hL EQ0 AB FIN
              have H6 := (O.out _ hB6).rep
              obtain ⟨X, HX⟩ := H6
              have x1 := HX.bc.2.1
              obtain ⟨-, -, -, -, -, -, x6, -⟩ := HX.bc
              rw [HH.out] at x6
              have xf := HX.hb.frozen 1
              have xl := HX.hb.lt
              have hge : (0 : Int) ≤ (b : Int) := by omega
              have hne := HX.ne (g := w.heap.size) HCZ.out
              have ROW := Lib.hid (And.intro HX.opn hB6)
              obtain ⟨j0, hj0, hy0, hy1, hy2⟩ := info_parts info3
              have hsl : st.stk.length ≤ 90 := HSL.out
              have XX := Lib.hid (And.intro HX (And.intro x1 (And.intro x6 (And.intro xf xl))))
              have BB := Lib.hid B6
              have SRC : Hid ((X.oA = none → st.stk.length = 0) ∧ ∀ W, Below w6.heap.size w6 W → ∀ ad, X.oA = some ad → ∀ j u, (intCells (opens st.stk))[j]? = some u → W.cell? (ad.add j) = some u) := Lib.hid (by
                refine ⟨fun e => ?_, fun W hW ad e j u hu => ?_⟩
                · rcases Nat.eq_zero_or_pos st.stk.length with h | h
                  · exact h
                  · obtain ⟨g, eg, -⟩ := HX.opn.at_ h
                    rw [e] at eg; cases eg
                · have hlen := (List.getElem?_eq_some_iff.1 hu).1
                  rw [opens_len] at hlen
                  obtain ⟨g, eg, -, hg, hc, -⟩ := HX.opn.at_ (by omega)
                  rw [eg] at e
                  obtain rfl := Option.some.inj e
                  rw [add_zero_at]
                  exact ((bcell hW).1 g j hg).trans (hc j u hu))
              have CL : Hid ((intCells (opens st.stk)).length = st.stk.length * 1) := Lib.hid (by rw [opens_len]; omega)
              clear HX B6 b0 b1 b2 b3 b4 b5 b6 b7 b8
              go_wp2_with fail
              go_region_law (first | (refine step_append_row _ (fun _ => (0, 0, 0)) (9, 9, 9) rfl _ (.tmp 54) 31 rfl 3 j0 _ 1 8 Tryz.underlying31 hj0 hy0 hy1 hy2 rfl (by decide) none 0 0 [] rfl (by exact RowOk.none_) X.oA st.stk.length X.ocap (intCells (opens st.stk)) rfl (by exact CL.out) (by exact SRC.out.1) (by exact SRC.out.2 _ (below_drew (Below.refl _ _))) (by exact intCells_one _) (by unfold maxLen; omega) (by omega) ?_; intro A2 cp2 w7 c7 hrow2 hmv2; have hm02 : Mv (· = (9, 9, 9)) w6 (fun _ => (0, 0, 0)) w7 c7 := (Mv.of_below (below_drew (Below.refl _ _))).trans hmv2; have hB7 := below_of_mv hm02; have z1 := ((bcell hB7).1 h.g 1 xl).trans XX.out.2.1; have z6 := ((bcell hB7).1 h.g 6 xl).trans XX.out.2.2.1; have zl := Nat.lt_of_lt_of_le xl hB7.size) | (refine step_append_row _ c7 (9, 9, 9) rfl (.tmp 55) (.tmp 60) 31 rfl 3 j0 _ 1 8 Tryz.underlying31 hj0 hy0 hy1 hy2 rfl (by decide) A2 st.stk.length cp2 (intCells (opens st.stk)) (by simp [Act.eval, Act.put]) (by simpa using hrow2.kp (kp_below (below_alloc (Below.refl _ _) _))) _ 1 1 [.int .i64 b] (by simp [Act.eval, Act.put]; rfl) (by rfl) (by simp) (by exact (HB.at_ (by simp)).news) (by simp [Value.oneCell']) (by unfold maxLen; omega) (by omega) ?_; intro A3 cp3 w8 c8 hrow3 hmv3; have M3 : Mv (· = (9, 9, 9)) w6 (fun _ => (0, 0, 0)) w8 c8 := hm02.trans ((Mv.of_below (below_alloc (Below.refl _ _) _)).trans hmv3); have hB8 := below_of_mv M3; have u1 := ((bcell hB8).1 h.g 1 xl).trans XX.out.2.1; have uf := ((bcell hB8).2 h.g 1 xl).trans XX.out.2.2.2.1; have ul := Nat.lt_of_lt_of_le xl hB8.size) | (refine step_append_row _ (fun _ => (0, 0, 0)) (9, 9, 9) rfl _ (.tmp 54) 31 rfl 3 j0 _ 1 8 Tryz.underlying31 hj0 hy0 hy1 hy2 rfl (by decide) none 0 0 [] rfl (by exact RowOk.none_) X.oA st.stk.length X.ocap (intCells (opens st.stk)) rfl (by exact CL.out) (by exact SRC.out.1) (by exact SRC.out.2 _ (below_drew (below_alloc (Below.refl _ _) _))) (by exact intCells_one _) (by unfold maxLen; omega) (by omega) ?_; intro A2 cp2 w7 c7 hrow2 hmv2; have hm02 : Mv (· = (9, 9, 9)) w6 (fun _ => (0, 0, 0)) w7 c7 := (Mv.of_below (below_drew (below_alloc (Below.refl _ _) _))).trans hmv2; have hbox : HB w7 w6.heap.size 3 [.int .i64 b] := HB.mvk ((HB.new w6 3 [.int .i64 b]).drew) hmv2 (by simp); have hB7 := below_of_mv hm02; have z1 := ((bcell hB7).1 h.g 1 xl).trans XX.out.2.1; have z6 := ((bcell hB7).1 h.g 6 xl).trans XX.out.2.2.1; have zl := Nat.lt_of_lt_of_le xl hB7.size) | (refine step_append_row _ c7 (9, 9, 9) rfl (.tmp 55) (.tmp 60) 31 rfl 3 j0 _ 1 8 Tryz.underlying31 hj0 hy0 hy1 hy2 rfl (by decide) A2 st.stk.length cp2 (intCells (opens st.stk)) (by simp [Act.eval, Act.put]) (by simpa using hrow2) _ 1 1 [.int .i64 b] (by simp [Act.eval, Act.put]; rfl) (by rfl) (by simp) (by exact hbox.news) (by simp [Value.oneCell']) (by unfold maxLen; omega) (by omega) ?_; intro A3 cp3 w8 c8 hrow3 hmv3; have M3 : Mv (· = (9, 9, 9)) w6 (fun _ => (0, 0, 0)) w8 c8 := hm02.trans hmv3; have hB8 := below_of_mv M3; have u1 := ((bcell hB8).1 h.g 1 xl).trans XX.out.2.1; have uf := ((bcell hB8).2 h.g 1 xl).trans XX.out.2.2.2.1; have ul := Nat.lt_of_lt_of_le xl hB8.size))
              all_goals
                have RN := RowNew.of_row M3 hrow3 (Nat.le_refl _)
                obtain ⟨c9, RO, hc9⟩ := RN.own c (h.sd, 7, 0)
                have MB : Mv (· = (h.sd, 7, 0)) w6 c w8 c9 := Mv.own_new XX.out.1.gd hB8 (by
                  rcases hc9 with h1 | ⟨g, h1, h2, h3, cur, h4⟩
                  · exact .inl h1
                  · exact .inr ⟨g, h1, h2, h3, cur, _, h4⟩)
                have ec : intCells (opens st.stk) ++ [Value.int .i64 b] = intCells (opens (st.stk ++ [(⟨(b : Int), 0, mHead⟩ : OpE)])) := by simp [intCells, opens]
                rw [ec, show st.stk.length + 1 = (st.stk ++ [(⟨(b : Int), 0, mHead⟩ : OpE)]).length by simp] at RO
                obtain ⟨K1, K2⟩ := sOpen XX.out.1 RO MB
                rw [show (st.stk ++ [(⟨(b : Int), 0, mHead⟩ : OpE)]).length = st.stk.length + 1 by simp] at K1 K2
                have K3 : SRep (w8.setCell ⟨h.g, 1, none⟩ (.slice A3 (st.stk.length + 1) cp3)) c9 h (pushM st) := by rw [PE.out]; exact ⟨_, K1⟩
                have MM := Lib.hid ((Mv.of_below hB6).trans K2)
                have C1 := Lib.hid (AB1.out _ _ MM.out K3)
                have B8 := HB.mvk BB.out M3 (by simp)
                have bl8 := B8.lt
                obtain ⟨b0, b1, b2, b3, b4, b5, b6, b7, b8⟩ := B8.tok
                clear K1 K2 K3 MB RO RN hc9 hrow2 hrow3 hmv2 hmv3
                go_wp2_with fail
                refine C1.out.mono ?_
                rintro e w10 ⟨rfl, q6, CLO⟩
                have CO := Lib.hid CLO
                clear CLO
                go_wp2_with fail
                refine CO.out.mono ?_
                rintro e w11 ⟨rfl, c11, H11, m11⟩
                go_wp2_with fail
                go_ret
                exact StepS.mk EQ.out ⟨rfl, c11, H11, MM.out.trans m11⟩
          · have EQ : Hid (aftHeadM st t = (st, false)) := Lib.hid (by rw [EQ0.out, hD, if_pos rfl])
            clear hD EQ0
            go_wp2_with fail
            go_ret
            exact StepS.mk EQ.out ⟨rfl, c, (O.out _ hB5).rep, Mv.of_below hB5⟩
        · have EQ : Hid (aftHeadM st t = (st, false)) := Lib.hid (by rw [EQ0.out, hS, if_pos rfl])
          clear hS EQ0
          go_wp2_with fail
          go_ret
          exact StepS.mk EQ.out ⟨rfl, c, (O.out _ hB4).rep, Mv.of_below hB4⟩
      · have EQ : Hid (aftHeadM st t = (st, false)) := Lib.hid (by rw [EQ0.out, hF, if_pos rfl])
        clear hF EQ0
        go_wp2_with fail
        go_ret
        exact StepS.mk EQ.out ⟨rfl, c, (O.out _ hB3).rep, Mv.of_below hB3⟩
    · have EQ : Hid (aftHeadM st t = headM st t) := Lib.hid (by rw [EQ0.out, hE, if_pos rfl])
      clear hE EQ0
      go_wp2_with fail
      refine (HD.out _ hB2).mono ?_
      rintro e w3 ⟨rfl, c3, H3, m3⟩
      go_wp2_with fail
      go_ret
      exact StepS.cong EQ.out ⟨rfl, c3, H3, m3⟩
  · have EQ : Hid (aftHeadM st t = headM st t) := Lib.hid (by rw [EQ0.out, hT, if_pos rfl])
    clear hT EQ0
    go_wp2_with fail
    refine (HD.out _ hB1).mono ?_
    rintro e w3 ⟨rfl, c3, H3, m3⟩
    go_wp2_with fail
    go_ret
    exact StepS.cong EQ.out ⟨rfl, c3, H3, m3⟩
end Go.Proofs.YtjmlkmlbhfkhbaaGreatDoor
namespace Go.Proofs.YtjmlkmlbhfkhbaaGreatDoor
open Go Go.RowKit

def stepRF (m : Int) : FuncId := if m = 0 then 96 else if m = 1 then 96 else if m = 2 then 96 else if m = 3 then 97 else if m = 4 then 98 else if m = 5 then 99 else 100

theorem rDo {w : World} {c : Col} {h : Sd} {st : St} (H : SRep w c h st) {N : Nat} (inv : Inv N st) (hN : N ≤ 890000) (ho : ownB st.mode = true) (t : Tok) (ht : TkOk w c t) :
    Calls Tryz.prog (stepRF st.mode) #[.pointer (some ⟨h.g, 0, none⟩), t.val] w (StepS h (stepM st t) w c) := by
  have hs := inv.shp.stk_le ho
  have hno := inv.shp.no_tmpl ho
  obtain ⟨hf, hm⟩ := inv.em.own ho
  have hs1 : st.stk.length ≤ 100 := by omega
  have hf1 : st.fmt.length < 64 := by rw [hf]; decide
  rcases ownB_cases ho with e | e | e | e | e | e | e
  · rw [show stepRF st.mode = 96 by rw [e]; rfl]
    exact rBefore0 H inv.wf hN hs1 t ht e
  · rw [show stepRF st.mode = 96 by rw [e]; rfl]
    exact rBefore1 H inv.wf hN hs1 t ht e
  · rw [show stepRF st.mode = 96 by rw [e]; rfl]
    have h0 : 0 < st.stk.length := by
      cases inv.shp with
      | start a => omega
      | html a _ hs ht => rw [hs]; simp
      | head a b hr => rcases hr with ⟨h, -⟩ | ⟨h, -⟩ | ⟨h, -⟩ <;> omega
      | raw _ _ _ _ a => omega
      | body _ _ _ a => omega
      | tmpl a => omega
    exact rBefore2 H inv.wf hN hs1 t ht e h0 (by omega)
  · rw [show stepM st t = headM st t by unfold stepM; rw [if_neg (by omega), if_neg (by omega), if_neg (by omega), if_pos e], show stepRF st.mode = 97 by rw [e]; rfl]
    have h0 : 0 < st.stk.length := by
      cases inv.shp with
      | start a => omega
      | html a _ hs ht => rw [hs]; simp
      | head a b hr => rcases hr with ⟨-, h⟩ | ⟨-, x, -, h⟩ | ⟨-, h⟩ <;> rw [h] <;> simp
      | raw _ _ _ _ a => omega
      | body _ _ _ a => omega
      | tmpl a => omega
    exact rHead H inv.wf hN hs1 hf1 hm t ht h0 (by omega)
  · rw [show stepM st t = noscriptM st t by unfold stepM; rw [if_neg (by omega), if_neg (by omega), if_neg (by omega), if_neg (by omega), if_pos e], show stepRF st.mode = 98 by rw [e]; rfl]
    have h0 : 0 < st.stk.length := by
      cases inv.shp with
      | start a => omega
      | html a _ hs ht => rw [hs]; simp
      | head a b hr => rcases hr with ⟨-, h⟩ | ⟨-, x, -, h⟩ | ⟨-, h⟩ <;> rw [h] <;> simp
      | raw _ _ _ _ a => omega
      | body _ _ _ a => omega
      | tmpl a => omega
    exact rNoscript H inv.wf hN hs1 hf1 hm t ht h0 (by omega)
  · rw [show stepM st t = aftHeadM st t by unfold stepM; rw [if_neg (by omega), if_neg (by omega), if_neg (by omega), if_neg (by omega), if_neg (by omega), if_pos e], show stepRF st.mode = 99 by rw [e]; rfl]
    obtain ⟨a, b, hs, hT, hb, hab, hh⟩ := aft_shape inv e
    have hp := pushM_eq hb hh
    have hst : (pushM st).stk = [⟨(a : Int), 0, mHtml⟩, ⟨(b : Int), 0, mHead⟩] := by rw [hp]; show st.stk ++ _ = _; rw [hs]; rfl
    have hno2 : lastOf (pushM st).stk [nTemplate] < 0 := by
      rw [hst, no_tmpl (by simp [tmpl_html, tmpl_head])]; decide
    refine rAfter H inv.wf hN (by omega) hf1 hm t ht (by rw [hs]; simp) (by omega) hb hh hno2 (fun _ => ?_)
    obtain ⟨f1, f2⟩ := own_facts t hno2
    have hph : (pushM st).head = st.head := by rw [hp]
    refine ⟨f1.trans hph, ?_, ixFrom_mem ?_⟩
    · rcases f2 with f2 | ⟨r, f2⟩ <;> rw [f2, hst] <;> simp
    · refine ⟨⟨(b : Int), 0, mHead⟩, ?_, hh.symm⟩
      rcases f2 with f2 | ⟨r, f2⟩ <;> rw [f2, hst] <;> simp
  · rw [show stepM st t = txtM st t by unfold stepM; rw [if_neg (by omega), if_neg (by omega), if_neg (by omega), if_neg (by omega), if_neg (by omega), if_neg (by omega), if_pos e], show stepRF st.mode = 100 by rw [e]; rfl]
    exact rText H inv.wf hN hs1 t ht

set_option maxRecDepth 100000 in
set_option maxHeartbeats 4000000 in
theorem rStep {w : World} {c : Col} {h : Sd} {st : St} (H : SRep w c h st) {N : Nat} (inv : Inv N st) (hN : N ≤ 890000) (ho : ownB st.mode = true) (t : Tok) (ht : TkOk w c t) :
    Calls Tryz.prog 56 #[.pointer (some ⟨h.g, 0, none⟩), t.val] w (StepS h (stepM st t) w c) := by
  have hb0 : Below w.heap.size w (w.alloc (.cells t.cells.toArray 24)) := below_alloc (Below.refl _ _) _
  have D := Lib.hid ((rDo (H.loc hb0) inv hN ho t (ht.loc hb0)).mono fun e w2 (ho : OkS h (stepM st t).1 (.bool (stepM st t).2) _ c e w2) => ho.after hb0)
  have HC := H
  obtain ⟨X, HX⟩ := HC
  obtain ⟨-, -, -, y3, -⟩ := HX.bc
  have l3 := HX.hb.lt
  clear H inv ht HX hb0
  unfold Tok.val at *
  unfold Tok.cells at *
  rcases ownB_cases ho with e | e | e | e | e | e | e
  all_goals
    rw [e] at y3 D
    clear ho e
    go_enter Tryz.func56, Tryz.ntmps56
    go_wp2_with fail
    refine D.out.mono ?_
    rintro e w2 ⟨rfl, c2, H2, m2⟩
    go_wp2_with fail
    go_ret
    exact ⟨rfl, c2, H2, m2⟩
end Go.Proofs.YtjmlkmlbhfkhbaaGreatDoor
namespace Go.Proofs.YtjmlkmlbhfkhbaaGreatDoor
open Go Go.RowKit

theorem lOwn' (w : World) (m : Int) : Calls Tryz.prog 51 #[.int .i64 m] w fun e w' => e = .returned (.bool (ownB m)) ∧ w = w' := lOwn w m

set_option maxRecDepth 100000 in
set_option maxHeartbeats 4000000 in
theorem lDoes {w : World} {c : Col} {h : Hd} {st : St} (H : BRep w c h st) {N : Nat} (inv : Inv N st) (hN : N ≤ 8900000) (hst : StepsOk w c) (t : Tok) (ht : TkOk w c t) :
    Calls Tryz.prog 52 #[.pointer (some ⟨h.b, 0, none⟩), t.val] w (OkB h (doesM 20 st t) (.tuple #[]) w c) := by
  have hb0 : Below w.heap.size w (w.alloc (.cells t.cells.toArray 24)) := below_alloc (Below.refl _ _) _
  have B0 := HB.new w 24 t.cells
  have hsd := H.sd
  have BOX : Hid (∀ W C, Mv (Pr h) (w.alloc (.cells t.cells.toArray 24)) c W C → HB W w.heap.size 24 t.cells) := Lib.hid fun W C hm => B0.mvk hm (fun e => H.sd (by unfold Pr at e; rw [← e, H.gd _ (Nat.le_refl _)]))
  have H0 := Lib.hid (H.loc hb0)
  have SO := Lib.hid (fun (W : World) (C : Col) (m : Mv (Pr h) (w.alloc (.cells t.cells.toArray 24)) c W C) => And.intro (hst.mv ((Mv.of_below hb0).trans m) (Pr.ne hsd)) (ht.mv hsd ((Mv.of_below hb0).trans m)))
  have IN := Lib.hid inv
  have M0 : Hid (Mv (Pr h) w c (w.alloc (.cells t.cells.toArray 24)) c) := Lib.hid (Mv.of_below hb0)
  clear H inv hst ht B0 hb0
  unfold Tok.val
  unfold Tok.cells at *
  go_enter Tryz.func52, Tryz.ntmps52
  go_wp2_with fail
  go_loopw [4] (fun a wr => ∃ (k : Nat) (s : St) (c' : Col), a = .int .i64 k ∧ k ≤ 20 ∧ Hid (BRep wr c' h s ∧ Mv (Pr h) (w.alloc (.cells t.cells.toArray 24)) c wr c' ∧ Inv (N + k * 1003) s ∧ doesM 20 st t = doesM (20 - k) s t)) (fun a _ => 20 - (intOf a).toNat)
  case atStart => exact ⟨0, st, c, rfl, by omega, Lib.hid ⟨H0.out, Mv.refl _ _ _, IN.out.more (by omega), rfl⟩⟩
  case round =>
    obtain ⟨k, s, c1, rfl, hk, hR⟩ := hrel
    have hB := BOX.out _ _ hR.out.2.1
    obtain ⟨b0, b1, b2, b3, b4, b5, b6, b7, b8⟩ := hB.tok
    have MO := Lib.hid (bMode hR.out.1)
    have OW := Lib.hid (lOwn' wr s.mode)
    by_cases hlt : k < 20
    · have hk1 : (k : Int) < 20 := by omega
      cases ho : ownB s.mode
      · rw [ho] at OW
        have EQ : Hid (doesM 20 st t = s) := Lib.hid (hR.out.2.2.2.trans (by obtain ⟨m, hm⟩ : ∃ m, 20 - k = m + 1 := ⟨19 - k, by omega⟩; rw [hm, doesM, if_neg (by rw [ho]; simp)]))
        clear ho
        go_wp2_with (first | (go_at_call 33; refine MO.out.mono ?_; rintro e w2 ⟨rfl, rfl⟩) | (go_at_call 51; refine OW.out.mono ?_; rintro e w2 ⟨rfl, rfl⟩))
        go_end0
        rw [EQ.out]
        exact ⟨rfl, c1, hR.out.1, M0.out.trans hR.out.2.1⟩
      · rw [ho] at OW
        have SS := hR.out
        obtain ⟨S1, S2⟩ := SO.out _ _ hR.out.2.1
        have ST := Lib.hid (hStep SS.1 SS.2.2.1 (by omega) ho S1 t S2)
        have IS := Lib.hid (SS.2.2.1.step S2.sm)
        have EQ : Hid (doesM 20 st t = if (stepM s t).2 then doesM (20 - (k + 1)) (stepM s t).1 t else (stepM s t).1) := Lib.hid (hR.out.2.2.2.trans (by obtain ⟨m, hm⟩ : ∃ m, 20 - k = m + 1 := ⟨19 - k, by omega⟩; rw [hm, doesM, if_pos ho, show 20 - (k + 1) = m by omega]))
        clear ho SS S1 S2
        go_wp2_with (first | (go_at_call 33; refine MO.out.mono ?_; rintro e w2 ⟨rfl, rfl⟩) | (go_at_call 51; refine OW.out.mono ?_; rintro e w2 ⟨rfl, rfl⟩))
        refine ST.out.mono ?_
        rintro e w3 ⟨rfl, c3, H3, m3⟩
        cases hr : (stepM s t).2
        · rw [hr, if_neg (by simp)] at EQ
          clear hr
          go_wp2_with fail
          go_end0
          rw [EQ.out]
          exact ⟨rfl, c3, H3, M0.out.trans (hR.out.2.1.trans m3)⟩
        · rw [hr, if_pos rfl] at EQ
          clear hr
          have hw : IntKind.i64.wrap ((k : Int) + 1) = (k : Int) + 1 := by have := wrap_small (L := k + 1) (by omega); rwa [show (((k + 1 : Nat) : Int)) = (k : Int) + 1 by omega] at this
          go_wp2_with fail
          go_roundw
          case rel => exact ⟨k + 1, (stepM s t).1, c3, by rfl, by omega, Lib.hid ⟨H3, hR.out.2.1.trans m3, IS.out.more (by omega), EQ.out⟩⟩
          case measure => simp [intOf]; omega
    · have hk1 : ¬ (k : Int) < 20 := by omega
      have EQ : Hid (doesM 20 st t = s) := Lib.hid (hR.out.2.2.2.trans (by rw [show 20 - k = 0 by omega, doesM]))
      go_wp2_with fail
      go_end0
      rw [EQ.out]
      exact ⟨rfl, c1, hR.out.1, M0.out.trans hR.out.2.1⟩
end Go.Proofs.YtjmlkmlbhfkhbaaGreatDoor
