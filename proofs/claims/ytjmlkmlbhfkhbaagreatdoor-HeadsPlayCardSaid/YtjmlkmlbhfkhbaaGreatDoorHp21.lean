/-
  heads.afterHead (257).
  The reference's builder in memory: one block, and its rows.
  The reference's readers: HTML (174), Top (197), Here (176), Last (177); Pop (148).
-/
import Derived.Test.YtjmlkmlbhfkhbaaGreatDoorHp18
import Derived.Test.YtjmlkmlbhfkhbaaGreatDoorHp19
import Derived.Test.YtjmlkmlbhfkhbaaGreatDoorHp20
import Derived.BigQuiet
set_option linter.unusedSimpArgs false
set_option linter.unusedVariables false
namespace Go.Proofs.YtjmlkmlbhfkhbaaGreatDoor
open Go Go.RowKit

theorem TkOk.mv {h : Hd} {w w' : World} {c c' : Col} {t : Tok} (ht : TkOk w c t) (hs : h.sd ≠ 0) (hm : Mv (Pr h) w c w' c') : TkOk w' c' t :=
  ⟨ht.name, ht.text, ht.attrs, ht.at_.mv hm (fun k e => by unfold Pr at e; rw [e]; exact hs)⟩

/-- What afterHead does with a token that belongs to a head. -/
theorem aft_bel {w : World} {c : Col} {h : Hd} {st : St} (H : BRep w c h st) {N : Nat} (wf : Wf N st) (hN : N ≤ 9000000) (hs : st.stk.length ≤ 90) (hf : st.fmt.length < 64) (hml : st.modes.length ≤ 1000000) (t : Tok) (ht : TkOk w c t)
    {b : Nat} (hb : IsEl st.ns b mHead) (hh : st.head = (b : Int)) (hno : lastOf (pushM st).stk [nTemplate] < 0)
    (hrm : (ownM (pushM st) t).head = st.head ∧ (ownM (pushM st) t).stk.length ≤ 1000 ∧ ∃ k : Nat, ixFrom (ownM (pushM st) t).stk st.head (ownM (pushM st) t).stk.length = (k : Int)) :
    Calls Tryz.prog 88 #[.pointer (some ⟨h.s, 0, none⟩), .int .i64 st.head] w (fun e w1 => e = .returned (.int .i64 0) ∧ ∃ c1, BRep w1 c1 h (pushM st) ∧ Mv (Pr h) w c w1 c1 ∧
      Calls Tryz.prog 136 #[.pointer (some ⟨h.b, 0, none⟩), t.val] w1 (fun e w2 => e = .returned (.tuple #[]) ∧ ∃ c2, BRep w2 c2 h (ownM (pushM st) t) ∧ Mv (Pr h) w c w2 c2 ∧
        Calls Tryz.prog 31 #[.pointer (some ⟨h.b, 0, none⟩)] w2 (fun e w' => e = .returned (.pointer (some ⟨h.s, 0, none⟩)) ∧ w2 = w') ∧
        Calls Tryz.prog 36 #[.pointer (some ⟨h.b, 0, none⟩)] w2 (fun e w' => e = .returned (.int .i64 st.head) ∧ w2 = w') ∧
        Calls Tryz.prog 259 #[.pointer (some ⟨h.s, 0, none⟩), .int .i64 st.head] w2 (OkB h (remM (ownM (pushM st) t)) (.int .i64 0) w c))) := by
  obtain ⟨n, h1, h2, h3, h4⟩ := hb
  have hp : pushM st = { st with stk := st.stk ++ [⟨(b : Int), n.space, n.name⟩] } := by
    unfold pushM
    rw [hh, Int.toNat_natCast, h1]
  have P := sPush H wf.sz (by omega) (by omega) h1 h2
  rw [← hp] at P
  have wp : Wf N (pushM st) := by rw [hp]; exact wf.push h1 h2
  rw [hh]
  refine P.mono ?_
  rintro e w1 ⟨rfl, c1, H1, m1⟩
  refine ⟨rfl, c1, H1, m1, (hOwn H1 wp hN (by rw [hp]; simp; omega) (by rw [hp]; exact hf) (by rw [hp]; exact hml) t (ht.mv H.sd m1) (fun ho => absurd ho (by omega))).mono ?_⟩
  rintro e w2 ⟨rfl, c2, H2, m2⟩
  obtain ⟨r1, r2, k, r3⟩ := hrm
  have HD := bHead H2
  rw [r1, hh] at HD
  refine ⟨rfl, c2, H2, m1.trans m2, bStack H2, HD, ?_⟩
  have he : remM (ownM (pushM st) t) = { ownM (pushM st) t with stk := (ownM (pushM st) t).stk.eraseIdx k } := by
    have r4 : ixFrom (ownM (pushM st) t).stk (ownM (pushM st) t).head (ownM (pushM st) t).stk.length = (k : Int) := by rw [r1]; exact r3
    unfold remM
    rw [r4, if_neg (by omega), Int.toNat_natCast]
  rw [he]
  rw [hh] at r3
  refine (sRemove H2 (by omega) (b : Int) r3).mono ?_
  rintro e w3 ⟨rfl, c3, H3, m3⟩
  exact ⟨rfl, c3, H3, (m1.trans m2).trans m3⟩

set_option maxRecDepth 100000 in
set_option maxHeartbeats 8000000 in
theorem hAftHead {w : World} {c : Col} {h : Hd} {st : St} (H : BRep w c h st) {N : Nat} (wf : Wf N st) (hN : N ≤ 9000000) (hs : st.stk.length ≤ 90) (hf : st.fmt.length < 64) (hml : st.modes.length ≤ 1000000) (t : Tok) (ht : TkOk w c t)
    (h0 : 0 < st.stk.length) (hno : lastOf st.stk [nTemplate] < 0) {b : Nat} (hb : IsEl st.ns b mHead) (hh : st.head = (b : Int)) (hno2 : lastOf (pushM st).stk [nTemplate] < 0)
    (hrm : belB t = true → (ownM (pushM st) t).head = st.head ∧ (ownM (pushM st) t).stk.length ≤ 1000 ∧ ∃ k : Nat, ixFrom (ownM (pushM st) t).stk st.head (ownM (pushM st) t).stk.length = (k : Int)) :
    Calls Tryz.prog 257 #[.pointer (some ⟨h.b, 0, none⟩), t.val] w (StepB h (aftHeadM st t) w c) := by
  have O := Lib.hid (fun (W : World) (hb : Below w.heap.size w W) => ops_of H wf hN (show st.stk.length ≤ 100 by omega) t ht hb)
  have OH := Lib.hid (fun (W : World) (hb : Below w.heap.size w W) => html_of H wf hN (show st.stk.length ≤ 100 by omega) h0 hno t ht hb)
  have HD := Lib.hid (fun (W : World) (hb : Below w.heap.size w W) => (hHead (H.loc hb) wf hN (by omega) hf hml t (ht.loc hb) (fun ho => absurd ho (by omega)) (fun _ => ⟨h0, hno⟩)).mono fun e w2 (ho : OkB h (headM st t).1 (.bool (headM st t).2) W c e w2) => ho.after hb)
  have AB := Lib.hid (fun (hl : belB t = true) (W : World) (hB : Below w.heap.size w W) => And.intro (And.intro (bStack (H.loc hB)) (bHead (H.loc hB))) (aft_bel (H.loc hB) wf hN hs hf hml t (ht.loc hB) hb hh hno2 (hrm hl)))
  have hb0 : Below w.heap.size w (w.alloc (.cells t.cells.toArray 24)) := below_alloc (Below.refl _ _) _
  have B0 := HB.new w 24 t.cells
  have BOX : Hid (∀ W C, Mv (Pr h) (w.alloc (.cells t.cells.toArray 24)) c W C → HB W w.heap.size 24 t.cells) := Lib.hid fun W C hm => B0.mvk hm (fun e => H.sd (by unfold Pr at e; rw [← e, H.gd _ (Nat.le_refl _)]))
  obtain ⟨b0, b1, b2, b3, b4, b5, b6, b7, b8⟩ := B0.tok
  clear H wf ht hs hf hml h0 hno hb hh hno2 hrm
  by_cases k5 : t.kind = 5
  · have EQ : Hid (aftHeadM st t = (chM st t.text, false)) := Lib.hid (by unfold aftHeadM; rw [if_pos k5])
    have k5' : (t.kind == 5) = true := by simp [k5]
    clear k5
    unfold Tok.val Tok.cells
    go_enter Tryz.func257, Tryz.ntmps257
    go_wp2_with fail
    refine (O.out _ hb0).chars.mono ?_
    rintro e w2 ⟨rfl, c2, H2, m2⟩
    go_wp2_with fail
    go_ret
    exact StepB.mk EQ.out ⟨rfl, c2, H2, m2⟩
  · have k5' : (t.kind == 5) = false := by simp [k5]
    by_cases k4 : t.kind = 4
    · have EQ : Hid (aftHeadM st t = (cmM st t.text (plIx st.ns (tgtIx st)), false)) := Lib.hid (by unfold aftHeadM; rw [if_neg k5, if_pos k4])
      have k4' : (t.kind == 4) = true := by simp [k4]
      clear k5 k4
      unfold Tok.val Tok.cells
      go_enter Tryz.func257, Tryz.ntmps257
      go_wp2_with fail
      refine (O.out _ hb0).com1.mono ?_
      rintro e w2 ⟨rfl, c2, H2, m2⟩
      go_wp2_with fail
      go_ret
      exact StepB.mk EQ.out ⟨rfl, c2, H2, m2⟩
    · have k4' : (t.kind == 4) = false := by simp [k4]
      by_cases k1 : t.kind = 1
      · have EQ : Hid (aftHeadM st t = (st, false)) := Lib.hid (by unfold aftHeadM; rw [if_neg k5, if_neg k4, if_pos k1])
        have k1' : (t.kind == 1) = true := by simp [k1]
        clear k5 k4 k1
        unfold Tok.val Tok.cells
        go_enter Tryz.func257, Tryz.ntmps257
        go_wp2_with fail
        go_ret
        exact StepB.mk EQ.out ⟨rfl, c, (O.out _ hb0).rep, Mv.of_below hb0⟩
      · have k1' : (t.kind == 1) = false := by simp [k1]
        have EQ : Hid (aftHeadM st t = if startB t [mHead, mFrameset] then (st, false) else if startB t [mHtml] then (htmlM st t, false) else if startB t [mBody] then ({ insM st t 0 with mode := 6 }, false) else if endB t [nTemplate] then headM st t else if belB t then (remM (ownM (pushM st) t), false) else if strangeB t then (st, false) else if endB t [mHead] then (st, false) else ({ insM st (impTok mBody) 0 with mode := 6 }, true)) := Lib.hid (by unfold aftHeadM; rw [if_neg k5, if_neg k4, if_neg k1])
        clear k5 k4 k1
        unfold Tok.val Tok.cells
        go_enter Tryz.func257, Tryz.ntmps257
        go_wp2_with fail
        refine Calls.mono (hStart _ t _ 2 [mHead, mFrameset] (by decide) (by exact Strs.mk_ _ (by simp))) ?_
        rintro e w1 ⟨rfl, hb1⟩
        have hB1 := below_step (below_alloc hb0 _) hb1
        have B1 := (B0.alloc _).below hb1
        have T1 := B1.tok
        clear b0 b1 b2 b3 b4 b5 b6 b7 b8
        obtain ⟨x1_0, x1_1, x1_2, x1_3, x1_4, x1_5, x1_6, x1_7, x1_8⟩ := T1
        cases hq1 : startB t [mHead, mFrameset]
        · rw [hq1, if_neg (by simp)] at EQ
          clear hq1
          go_wp2_with fail
          refine Calls.mono (hStart _ t _ 1 [mHtml] (by decide) (by exact Strs.mk_ _ (by simp))) ?_
          rintro e w2 ⟨rfl, hb2⟩
          have hB2 := below_step (below_alloc hB1 _) hb2
          have B2 := (B1.alloc _).below hb2
          have T2 := B2.tok
          clear x1_0 x1_1 x1_2 x1_3 x1_4 x1_5 x1_6 x1_7 x1_8
          obtain ⟨x2_0, x2_1, x2_2, x2_3, x2_4, x2_5, x2_6, x2_7, x2_8⟩ := T2
          cases hq2 : startB t [mHtml]
          · rw [hq2, if_neg (by simp)] at EQ
            clear hq2
            go_wp2_with fail
            refine Calls.mono (hStart _ t _ 1 [mBody] (by decide) (by exact Strs.mk_ _ (by simp))) ?_
            rintro e w3 ⟨rfl, hb3⟩
            have hB3 := below_step (below_alloc hB2 _) hb3
            have B3 := (B2.alloc _).below hb3
            have T3 := B3.tok
            clear x2_0 x2_1 x2_2 x2_3 x2_4 x2_5 x2_6 x2_7 x2_8
            obtain ⟨x3_0, x3_1, x3_2, x3_3, x3_4, x3_5, x3_6, x3_7, x3_8⟩ := T3
            cases hq3 : startB t [mBody]
            · rw [hq3, if_neg (by simp)] at EQ
              clear hq3
              go_wp2_with fail
              refine Calls.mono (hEnd _ t _ 1 [nTemplate] (by decide) (by exact Strs.mk_ _ (by simp))) ?_
              rintro e w4 ⟨rfl, hb4⟩
              have hB4 := below_step (below_alloc hB3 _) hb4
              have B4 := (B3.alloc _).below hb4
              have T4 := B4.tok
              clear x3_0 x3_1 x3_2 x3_3 x3_4 x3_5 x3_6 x3_7 x3_8
              obtain ⟨x4_0, x4_1, x4_2, x4_3, x4_4, x4_5, x4_6, x4_7, x4_8⟩ := T4
              cases hq4 : endB t [nTemplate]
              · rw [hq4, if_neg (by simp)] at EQ
                clear hq4
                go_wp2_with fail
                refine Calls.mono (hBelongs _ t) ?_
                rintro e w5 ⟨rfl, hb5⟩
                have hB5 := below_step hB4 hb5
                have B5 := B4.below hb5
                have T5 := B5.tok
                clear x4_0 x4_1 x4_2 x4_3 x4_4 x4_5 x4_6 x4_7 x4_8
                obtain ⟨x5_0, x5_1, x5_2, x5_3, x5_4, x5_5, x5_6, x5_7, x5_8⟩ := T5
                cases hq5 : belB t
                · rw [hq5, if_neg (by simp)] at EQ
                  clear hq5
                  go_wp2_with fail
                  refine Calls.mono (hStrange _ t) ?_
                  rintro e w6 ⟨rfl, hb6⟩
                  have hB6 := below_step hB5 hb6
                  have B6 := B5.below hb6
                  have T6 := B6.tok
                  clear x5_0 x5_1 x5_2 x5_3 x5_4 x5_5 x5_6 x5_7 x5_8
                  obtain ⟨x6_0, x6_1, x6_2, x6_3, x6_4, x6_5, x6_6, x6_7, x6_8⟩ := T6
                  cases hq6 : strangeB t
                  · rw [hq6, if_neg (by simp)] at EQ
                    clear hq6
                    go_wp2_with fail
                    refine Calls.mono (hEnd _ t _ 1 [mHead] (by decide) (by exact Strs.mk_ _ (by simp))) ?_
                    rintro e w7 ⟨rfl, hb7⟩
                    have hB7 := below_step (below_alloc hB6 _) hb7
                    have B7 := (B6.alloc _).below hb7
                    have T7 := B7.tok
                    clear x6_0 x6_1 x6_2 x6_3 x6_4 x6_5 x6_6 x6_7 x6_8
                    obtain ⟨x7_0, x7_1, x7_2, x7_3, x7_4, x7_5, x7_6, x7_7, x7_8⟩ := T7
                    cases hq7 : endB t [mHead]
                    · rw [hq7, if_neg (by simp)] at EQ
                      clear hq7
                      go_wp2_with fail
                      refine ((O.out _ hB7).imp _).mono ?_
                      rintro e v1 ⟨rfl, c1, H1, m1⟩
                      go_wp2_with fail
                      refine (bSet H1 6).mono ?_
                      rintro e v2 ⟨rfl, c2, H2, m2⟩
                      go_wp2_with fail
                      go_ret
                      exact StepB.mk EQ.out ⟨rfl, c2, H2, m1.trans m2⟩
                    · rw [hq7, if_pos rfl] at EQ
                      clear hq7
                      go_wp2_with fail
                      go_ret
                      exact StepB.mk EQ.out ⟨rfl, c, (O.out _ hB7).rep, Mv.of_below hB7⟩
                  · rw [hq6, if_pos rfl] at EQ
                    clear hq6
                    go_wp2_with fail
                    go_ret
                    exact StepB.mk EQ.out ⟨rfl, c, (O.out _ hB6).rep, Mv.of_below hB6⟩
                · rw [hq5, if_pos rfl] at EQ
                  have AX := Lib.hid (AB.out hq5 _ hB5)
                  clear hq5
                  have hb0n : Below (w.alloc (.cells t.cells.toArray 24)).heap.size (w.alloc (.cells t.cells.toArray 24)) w5 := below_step (below_step (below_alloc (below_step (below_alloc (below_step (below_alloc (below_step (below_alloc (Below.refl _ _) _) hb1) _) hb2) _) hb3) _) hb4) hb5
                  go_wp2_with (first | (go_at_call 31; refine AX.out.1.1.mono ?_; rintro e v0 ⟨rfl, rfl⟩) | (go_at_call 36; refine AX.out.1.2.mono ?_; rintro e v0 ⟨rfl, rfl⟩))
                  refine AX.out.2.mono ?_
                  rintro e v1 ⟨rfl, c1, H1, m1, C1⟩
                  have FL := Lib.hid (bFail0 H1)
                  have C1H := Lib.hid C1
                  have HB1 : HB v1 w.heap.size 24 t.cells := BOX.out _ _ ((Mv.of_below hb0n).trans m1)
                  obtain ⟨y0, y1, y2, y3, y4, y5, y6, y7, y8⟩ := HB1.tok
                  clear C1
                  go_wp2_with (go_at_call 18; refine FL.out.mono ?_; rintro e v2 ⟨rfl, rfl⟩)
                  refine C1H.out.mono ?_
                  rintro e v2 ⟨rfl, c2, H2, m2, S2, D2, R2⟩
                  have S2H := Lib.hid S2
                  have D2H := Lib.hid D2
                  have R2H := Lib.hid R2
                  clear S2 D2 R2
                  go_wp2_with (first | (go_at_call 31; refine S2H.out.mono ?_; rintro e v3 ⟨rfl, rfl⟩) | (go_at_call 36; refine D2H.out.mono ?_; rintro e v3 ⟨rfl, rfl⟩))
                  refine R2H.out.mono ?_
                  rintro e v3 ⟨rfl, c3, H3, m3⟩
                  go_wp2_with fail
                  go_ret
                  exact StepB.mk EQ.out ⟨rfl, c3, H3, (Mv.of_below hB5).trans m3⟩
              · rw [hq4, if_pos rfl] at EQ
                clear hq4
                go_wp2_with fail
                refine (HD.out _ hB4).mono ?_
                rintro e v1 ⟨rfl, c1, H1, m1⟩
                go_wp2_with fail
                go_ret
                exact StepB.mk EQ.out ⟨rfl, c1, H1, m1⟩
            · rw [hq3, if_pos rfl] at EQ
              clear hq3
              go_wp2_with fail
              refine (O.out _ hB3).ins.mono ?_
              rintro e v1 ⟨rfl, c1, H1, m1⟩
              go_wp2_with fail
              refine (bSet H1 6).mono ?_
              rintro e v2 ⟨rfl, c2, H2, m2⟩
              go_wp2_with fail
              go_ret
              exact StepB.mk EQ.out ⟨rfl, c2, H2, m1.trans m2⟩
          · rw [hq2, if_pos rfl] at EQ
            clear hq2
            go_wp2_with fail
            refine (OH.out _ hB2).mono ?_
            rintro e v1 ⟨rfl, c1, H1, m1⟩
            go_wp2_with fail
            go_ret
            exact StepB.mk EQ.out ⟨rfl, c1, H1, m1⟩
        · rw [hq1, if_pos rfl] at EQ
          clear hq1
          go_wp2_with fail
          go_ret
          exact StepB.mk EQ.out ⟨rfl, c, (O.out _ hB1).rep, Mv.of_below hB1⟩
end Go.Proofs.YtjmlkmlbhfkhbaaGreatDoor
namespace Go.Proofs.YtjmlkmlbhfkhbaaGreatDoor
open Go Go.RowKit

structure SSh where
  nA : Option Addr
  ncap : Nat
  cs : List NdC
  oA : Option Addr
  ocap : Nat
  lA : Option Addr
  lcap : Nat
  mA : Option Addr
  mcap : Nat
  qs : Int
  qn : Str

def opens (l : List OpE) : List Int := l.map (·.node)
def entCells (l : List Int) : List Value := l.flatMap fun i => [.bool (i == -1), .int .i64 i]
def sCells (x : SSh) (st : St) : List Value :=
  [.slice x.nA x.cs.length x.ncap, .slice x.oA st.stk.length x.ocap, .slice x.lA st.fmt.length x.lcap, .int .i64 st.mode, .int .i64 st.back, .slice x.mA st.modes.length x.mcap,
    .int .i64 st.head, .int .i64 st.form, .bool st.quirks, .bool st.foster, .bool st.skip, .string st.pending, .bool st.ask.isSome, .int .i64 x.qs, .string x.qn, .int .i64 0]

/-- The block of the reference's builder, and its side. -/
structure Sd where
  sd : Nat
  g : Nat

structure SRepX (w : World) (c : Col) (h : Sd) (x : SSh) (st : St) : Prop where
  gd : Good w c
  sd : h.sd ≠ 0
  hb : Blk w c (h.sd, 1, 0) h.g 79 (sCells x st)
  row : RowOk w c (h.sd, 3, 0) 58 11 x.nA x.cs.length x.ncap (x.cs.flatMap NdC.cells)
  each : ∀ i y, x.cs[i]? = some y → NodeRows w c h.sd i y
  ns : x.cs.map (·.nd) = st.ns
  opn : RowOk w c (h.sd, 7, 0) 3 1 x.oA st.stk.length x.ocap (intCells (opens st.stk))
  lst : RowOk w c (h.sd, 9, 0) 112 2 x.lA st.fmt.length x.lcap (entCells st.fmt)
  modes : RowOk w c (h.sd, 10, 0) 3 1 x.mA st.modes.length x.mcap (intCells st.modes)
  ask : ∀ s n, st.ask = some (s, n) → x.qs = s ∧ x.qn = n
def SRep (w : World) (c : Col) (h : Sd) (st : St) : Prop := ∃ x, SRepX w c h x st
def PrS (h : Sd) : Key → Prop := fun k => k.1 = h.sd

theorem SRepX.kp {w w' : World} {c c' : Col} {h : Sd} {x : SSh} {st : St} (H : SRepX w c h x st) (hk : ∀ p i, Kp (h.sd, p, i) w c w' c') (hg : Good w' c') : SRepX w' c' h x st :=
  ⟨hg, H.sd, H.hb.kp (hk _ _), H.row.kp (hk _ _), fun i y hy => ⟨(H.each i y hy).1.kp (hk _ _), (H.each i y hy).2.kp (hk _ _)⟩, H.ns, H.opn.kp (hk _ _), H.lst.kp (hk _ _), H.modes.kp (hk _ _), H.ask⟩
theorem SRep.mv {S : Key → Prop} {w w' : World} {c c' : Col} {h : Sd} {st : St} (H : SRep w c h st) (hm : Mv S w c w' c') (hS : ∀ p i, ¬ S (h.sd, p, i)) : SRep w' c' h st := by
  obtain ⟨x, H⟩ := H
  exact ⟨x, H.kp (fun p i => hm.kp (hS p i)) (hm.gd H.gd)⟩
theorem SRep.loc {w w' : World} {c : Col} {h : Sd} {st : St} (H : SRep w c h st) (hb : Below w.heap.size w w') : SRep w' c h st :=
  H.mv (Mv.of_below (S := fun _ => False) hb) (fun _ _ => id)
theorem SRepX.loc {w w' : World} {c : Col} {h : Sd} {x : SSh} {st : St} (H : SRepX w c h x st) (hb : Below w.heap.size w w') : SRepX w' c h x st :=
  H.kp (fun p i => kp_below hb) ((Mv.of_below (S := fun _ => False) hb).gd H.gd)
theorem SRep.gd {w : World} {c : Col} {h : Sd} {st : St} (H : SRep w c h st) : Good w c := H.choose_spec.gd
theorem SRep.sd {w : World} {c : Col} {h : Sd} {st : St} (H : SRep w c h st) : h.sd ≠ 0 := H.choose_spec.sd

def OkS (h : Sd) (st : St) (v : Value) (w : World) (c : Col) (e : Ending) (w' : World) : Prop := e = .returned v ∧ ∃ c', SRep w' c' h st ∧ Mv (PrS h) w c w' c'
theorem OkS.after {h : Sd} {st : St} {v : Value} {w w1 : World} {c : Col} (hb : Below w.heap.size w w1) {e : Ending} {w2 : World} (H : OkS h st v w1 c e w2) : OkS h st v w c e w2 := by
  obtain ⟨he, c', h1, h2⟩ := H
  exact ⟨he, c', h1, (Mv.of_below hb).trans h2⟩

theorem SRepX.bc {w : World} {c : Col} {h : Sd} {x : SSh} {st : St} (H : SRepX w c h x st) :
    w.cell? ⟨h.g, 0, none⟩ = some (.slice x.nA x.cs.length x.ncap) ∧ w.cell? ⟨h.g, 1, none⟩ = some (.slice x.oA st.stk.length x.ocap) ∧ w.cell? ⟨h.g, 2, none⟩ = some (.slice x.lA st.fmt.length x.lcap) ∧
    w.cell? ⟨h.g, 3, none⟩ = some (.int .i64 st.mode) ∧ w.cell? ⟨h.g, 4, none⟩ = some (.int .i64 st.back) ∧ w.cell? ⟨h.g, 5, none⟩ = some (.slice x.mA st.modes.length x.mcap) ∧
    w.cell? ⟨h.g, 6, none⟩ = some (.int .i64 st.head) ∧ w.cell? ⟨h.g, 7, none⟩ = some (.int .i64 st.form) ∧ w.cell? ⟨h.g, 8, none⟩ = some (.bool st.quirks) ∧
    w.cell? ⟨h.g, 9, none⟩ = some (.bool st.foster) ∧ w.cell? ⟨h.g, 10, none⟩ = some (.bool st.skip) ∧ w.cell? ⟨h.g, 11, none⟩ = some (.string st.pending) ∧
    w.cell? ⟨h.g, 12, none⟩ = some (.bool st.ask.isSome) ∧ w.cell? ⟨h.g, 13, none⟩ = some (.int .i64 x.qs) ∧ w.cell? ⟨h.g, 14, none⟩ = some (.string x.qn) ∧ w.cell? ⟨h.g, 15, none⟩ = some (.int .i64 0) ∧
    (∀ i, w.frozen? ⟨h.g, i, none⟩ = false) ∧ h.g < w.heap.size :=
  ⟨H.hb.cell 0, H.hb.cell 1, H.hb.cell 2, H.hb.cell 3, H.hb.cell 4, H.hb.cell 5, H.hb.cell 6, H.hb.cell 7, H.hb.cell 8, H.hb.cell 9, H.hb.cell 10, H.hb.cell 11, H.hb.cell 12, H.hb.cell 13, H.hb.cell 14, H.hb.cell 15, H.hb.frozen, H.hb.lt⟩

/-- A cell of the block is written; the rows stay. -/
theorem SRepX.setS {w : World} {c : Col} {h : Sd} {x x' : SSh} {st st' : St} (H : SRepX w c h x st) (j : Nat) (v : Value) (hc : sCells x' st' = (sCells x st).set j v)
    (e1 : st'.ns = st.ns) (e2 : st'.stk = st.stk) (e3 : st'.fmt = st.fmt) (e4 : st'.modes = st.modes) (e5 : ∀ s n, st'.ask = some (s, n) → x'.qs = s ∧ x'.qn = n)
    (f : x' = { x with qs := x'.qs, qn := x'.qn }) : SRepX (w.setCell ⟨h.g, j, none⟩ v) c h x' st' ∧ Mv (PrS h) w c (w.setCell ⟨h.g, j, none⟩ v) c := by
  have k2 : ∀ p i, p ≠ 1 → Kp (h.sd, p, i) w c (w.setCell ⟨h.g, j, none⟩ v) c := fun p i hp => kp_setCell (by rw [H.hb.1]; simp; omega) _
  have s2 : Mv (PrS h) w c (w.setCell ⟨h.g, j, none⟩ v) c := Mv.setCell (show (c h.g).1 = h.sd by rw [H.hb.1]) _
  rw [f] at hc ⊢
  refine ⟨⟨s2.gd H.gd, H.sd, by rw [hc]; exact H.hb.set_ j v, H.row.kp (k2 _ _ (by decide)), fun i y hy => ⟨(H.each i y hy).1.kp (k2 _ _ (by decide)), (H.each i y hy).2.kp (k2 _ _ (by decide))⟩, H.ns.trans e1.symm, ?_, ?_, ?_, e5⟩, s2⟩
  · rw [e2]; exact H.opn.kp (k2 _ _ (by decide))
  · rw [e3]; exact H.lst.kp (k2 _ _ (by decide))
  · rw [e4]; exact H.modes.kp (k2 _ _ (by decide))
end Go.Proofs.YtjmlkmlbhfkhbaaGreatDoor
namespace Go.Proofs.YtjmlkmlbhfkhbaaGreatDoor
open Go Go.RowKit

/-- A node of the reference's. -/
theorem SRepX.node {w : World} {c : Col} {h : Sd} {x : SSh} {st : St} (H : SRepX w c h x st) {i : Nat} {n : Nd} (hi : st.ns[i]? = some n) :
    ∃ (gn : Nat) (y : NdC), x.nA = some ⟨gn, 0, none⟩ ∧ x.cs[i]? = some y ∧ y.nd = n ∧ i < x.cs.length ∧ gn < w.heap.size ∧ (∀ j, j < 11 → w.cell? ⟨gn, i * 11 + j, none⟩ = y.cells[j]?) ∧ (∀ j, w.frozen? ⟨gn, j, none⟩ = false) := by
  rw [← H.ns, List.getElem?_map] at hi
  cases hx : x.cs[i]? with
  | none => rw [hx] at hi; cases hi
  | some y =>
    rw [hx] at hi
    obtain rfl := Option.some.inj hi
    have hlt := (List.getElem?_eq_some_iff.1 hx).1
    obtain ⟨g, e1, e2, e3, e4, e5⟩ := H.row.at_ (by omega)
    refine ⟨g, y, e1, rfl, rfl, hlt, e3, fun j hj => ?_, e5⟩
    have hf := flat_at x.cs i j y hx hj
    have hxj : j < y.cells.length := by rw [NdC.cells_len]; exact hj
    rw [List.getElem?_eq_getElem hxj] at hf ⊢
    exact e4 _ _ hf
theorem SRepX.nlen {w : World} {c : Col} {h : Sd} {x : SSh} {st : St} (H : SRepX w c h x st) : x.cs.length = st.ns.length := by rw [← H.ns]; simp

section
variable {w : World} {c : Col} {h : Sd} {st : St}

set_option maxHeartbeats 1000000 in
theorem rHtml (H : SRep w c h st) {i : Nat} {n : Nd} (hi : st.ns[i]? = some n) (nm : Str) :
    Calls Tryz.prog 174 #[.pointer (some ⟨h.g, 0, none⟩), .int .i64 i, .string nm] w fun e w' => e = .returned (.bool (htmlN n [nm])) ∧ w = w' := by
  obtain ⟨X, H⟩ := H
  obtain ⟨b0, -⟩ := H.bc
  obtain ⟨gn, y, hA, hy, rfl, hlt, -, q, -⟩ := H.node hi
  have t0 := q 0 (by decide)
  have t1 := q 1 (by decide)
  have t3 := q 3 (by decide)
  simp only [NdC.cells, List.getElem?_cons_succ, List.getElem?_cons_zero, Nat.add_zero] at t0 t1 t3
  rw [hA] at b0
  have h0 : (0 : Int) ≤ (i : Int) := by omega
  have h1 : (i : Int) < (X.cs.length : Int) := by omega
  clear H q hi hA hy
  by_cases k : y.nd.kind = 3
  · have k' : (y.nd.kind == 3) = true := by simp [k]
    by_cases s : y.nd.space = 0
    · have s' : (y.nd.space == 0) = true := by simp [s]
      have E : Hid (htmlN y.nd [nm] = (y.nd.name.toList == nm.toList)) := Lib.hid (by unfold htmlN inS; simp [k, s, eqS])
      clear k s
      go_enter Tryz.func174, Tryz.ntmps174
      go_wp2_with fail
      go_ret
      exact ⟨ret_bool E.out.symm, rfl⟩
    · have s' : (y.nd.space == 0) = false := by simp [s]
      have E : Hid (htmlN y.nd [nm] = false) := Lib.hid (by unfold htmlN; simp [s])
      clear k s
      go_enter Tryz.func174, Tryz.ntmps174
      go_wp2_with fail
      go_ret
      exact ⟨ret_bool E.out.symm, rfl⟩
  · have k' : (y.nd.kind == 3) = false := by simp [k]
    have E : Hid (htmlN y.nd [nm] = false) := Lib.hid (by unfold htmlN; simp [k])
    clear k
    go_enter Tryz.func174, Tryz.ntmps174
    go_wp2_with fail
    go_ret
    exact ⟨ret_bool E.out.symm, rfl⟩

set_option maxHeartbeats 1000000 in
theorem rTop (H : SRep w c h st) (hl : st.stk.length ≤ 1000000) :
    Calls Tryz.prog 197 #[.pointer (some ⟨h.g, 0, none⟩)] w fun e w' => e = .returned (.int .i64 (topOf st.stk)) ∧ Below w.heap.size w w' := by
  obtain ⟨X, H⟩ := H
  have b1 := H.bc.2.1
  cases hL : st.stk.length with
  | zero =>
    have hnil : st.stk = [] := List.eq_nil_of_length_eq_zero hL
    rw [hL] at b1
    rw [hnil, topOf_nil]
    clear H hL hnil
    go_enter Tryz.func197, Tryz.ntmps197
    go_wp2_with fail
    go_ret
    exact ⟨rfl, Below.refl _ _⟩
  | succ L =>
    obtain ⟨o, ho⟩ : ∃ o, st.stk[L]? = some o := ⟨_, List.getElem?_eq_getElem (by omega)⟩
    obtain ⟨g, hA, -, -, hc, -⟩ := H.opn.at_ (by omega)
    have c0 := hc L (.int .i64 o.node) (by unfold intCells opens; simp [ho])
    have ht : topOf st.stk = o.node := topOf_some (by rw [hL]; exact ho)
    rw [hL, hA] at b1
    rw [ht]
    have h0 : ((L : Int) + 1 == 0) = false := beq_eq_false_iff_ne.2 (by omega)
    have h1 : IntKind.i64.wrap (L : Int) = L := wrap_small (by omega)
    have h2 : (0 : Int) ≤ (L : Int) := by omega
    have h3 : (L : Int) < (L : Int) + 1 := by omega
    clear H hL hA hc ho ht
    go_enter Tryz.func197, Tryz.ntmps197
    go_wp2_with fail
    go_quiet (fail)
    go_wp2_with fail
    go_ret
    exact ⟨rfl, bdrewN _ _⟩

set_option maxHeartbeats 1000000 in
theorem rHere (H : SRep w c h st) (hl : st.stk.length ≤ 1000000) :
    Calls Tryz.prog 176 #[.pointer (some ⟨h.g, 0, none⟩)] w fun e w' => e = .returned (.int .i64 (topD st.stk)) ∧ Below w.heap.size w w' := by
  have T := Lib.hid (rTop H hl)
  clear H
  go_enter Tryz.func176, Tryz.ntmps176
  go_wp2_with fail
  refine T.out.mono ?_
  rintro e w1 ⟨rfl, hb1⟩
  have E : Hid (topD st.stk = max (topOf st.stk) 0) := Lib.hid (by unfold topD; split <;> omega)
  generalize topOf st.stk = m at *
  go_wp2_with fail
  all_goals
    go_ret
    exact ⟨ret_int (by rw [E.out]; omega), hb1⟩

set_option maxRecDepth 100000 in
set_option maxHeartbeats 1000000 in
theorem rPop (H : SRep w c h st) (hl : st.stk.length ≤ 1000000) :
    Calls Tryz.prog 148 #[.pointer (some ⟨h.g, 0, none⟩)] w (OkS h { st with stk := st.stk.dropLast } (.tuple #[]) w c) := by
  obtain ⟨X, H⟩ := H
  have b1 := H.bc.2.1
  have f1 := H.hb.frozen 1
  have hlb := H.hb.lt
  cases hL : st.stk.length with
  | zero =>
    have hnil : st.stk = [] := List.eq_nil_of_length_eq_zero hL
    have e : { st with stk := st.stk.dropLast } = st := by
      cases st
      simp only at hnil
      subst hnil
      rfl
    rw [e]
    rw [hL] at b1
    have HH := Lib.hid (show SRep w c h st from ⟨X, H⟩)
    clear H hL hnil e
    go_enter Tryz.func148, Tryz.ntmps148
    go_wp2_with fail
    go_end0
    exact ⟨rfl, c, HH.out, Mv.refl _ _ _⟩
  | succ L =>
    have hcut := H.opn.cut (m := L) (by omega)
    have e1 : st.stk.dropLast.length = L := by rw [List.length_dropLast]; omega
    have e2 : (intCells (opens st.stk)).take (L * 1) = intCells (opens st.stk.dropLast) := by
      unfold intCells opens
      rw [Nat.mul_one, ← List.map_take, ← List.map_take, List.dropLast_eq_take, hL]
      simp
    rw [e2] at hcut
    have k2 : ∀ p i, p ≠ 1 → Kp (h.sd, p, i) w c (w.setCell ⟨h.g, 1, none⟩ (.slice X.oA L X.ocap)) c := fun p i hp => kp_setCell (by rw [H.hb.1]; simp; omega) _
    have s2 : Mv (PrS h) w c (w.setCell ⟨h.g, 1, none⟩ (.slice X.oA L X.ocap)) c := Mv.setCell (show (c h.g).1 = h.sd by rw [H.hb.1]) _
    have hbn : Blk (w.setCell ⟨h.g, 1, none⟩ (.slice X.oA L X.ocap)) c (h.sd, 1, 0) h.g 79 (sCells X { st with stk := st.stk.dropLast }) := by
      have := H.hb.set_ 1 (.slice X.oA L X.ocap)
      have e : sCells X { st with stk := st.stk.dropLast } = (sCells X st).set 1 (.slice X.oA L X.ocap) := by
        unfold sCells
        simp only [e1]
        rfl
      rw [e]; exact this
    have N : SRepX (w.setCell ⟨h.g, 1, none⟩ (.slice X.oA L X.ocap)) c h X { st with stk := st.stk.dropLast } :=
      ⟨s2.gd H.gd, H.sd, hbn, H.row.kp (k2 _ _ (by decide)), fun i y hy => ⟨(H.each i y hy).1.kp (k2 _ _ (by decide)), (H.each i y hy).2.kp (k2 _ _ (by decide))⟩, H.ns, by rw [e1]; exact hcut.kp (k2 _ _ (by decide)), H.lst.kp (k2 _ _ (by decide)), H.modes.kp (k2 _ _ (by decide)), H.ask⟩
    have NH := Lib.hid (And.intro N s2)
    have hle := H.opn.le
    have hmx := H.opn.capMax
    unfold maxLen at hmx
    rw [hL] at b1 hle
    have h0 : (0 : Int) < (L : Int) + 1 := by omega
    have h1 : IntKind.i64.wrap (L : Int) = L := wrap_small (by omega)
    have h2 : (0 : Int) ≤ (L : Int) := by omega
    have h4 : (L : Int) ≤ (X.ocap : Int) := by omega
    have h5 : L ≤ X.ocap := by omega
    clear H hL hcut e1 e2 k2 s2 hbn N hmx hle
    go_enter Tryz.func148, Tryz.ntmps148
    go_wp2_with fail
    go_region
    all_goals
      go_end0
      exact ⟨rfl, c, (show SRep _ c h _ from ⟨_, NH.out.1⟩).loc (below_drew (Below.refl _ _)), NH.out.2.drew⟩
end
end Go.Proofs.YtjmlkmlbhfkhbaaGreatDoor
