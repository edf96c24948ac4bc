/-
  The reference's State (184), own (147).
  The reference's steps as functions of a state, in its own order; they are the program's.
-/
import Derived.Test.YtjmlkmlbhfkhbaaGreatDoorHp25
import Derived.Test.YtjmlkmlbhfkhbaaGreatDoorHp27
import Derived.Test.YtjmlkmlbhfkhbaaGreatDoorHp16
import Derived.Test.YtjmlkmlbhfkhbaaGreatDoorHp20
set_option linter.unusedSimpArgs false
set_option linter.unusedVariables false
namespace Go.Proofs.YtjmlkmlbhfkhbaaGreatDoor
open Go Go.RowKit

abbrev rawNames : List Str := [nTitle, nNoframes, nStyle, nScript]
def stateOf (nm : Str) : Int := if eqS nm nTitle then 1 else if eqS nm nNoframes then 2 else if eqS nm nStyle then 2 else 3

set_option maxHeartbeats 800000 in
theorem rState (w : World) (nm : Str) (h : inS rawNames nm = true) : Calls Tryz.prog 184 #[.string nm] w fun e w' => e = .returned (.int .i64 (stateOf nm)) ∧ w = w' := by
  have h4 : eqS nm nTitle = true ∨ eqS nm nNoframes = true ∨ eqS nm nStyle = true ∨ eqS nm nScript = true := by
    unfold inS at h
    simpa using h
  have fin : ∀ (k : Int), stateOf nm = k → (Calls Tryz.prog 184 #[.string nm] w fun e w' => e = .returned (.int .i64 k) ∧ w = w') → Calls Tryz.prog 184 #[.string nm] w fun e w' => e = .returned (.int .i64 (stateOf nm)) ∧ w = w' := by
    intro k e h
    rw [e]; exact h
  rcases h4 with h | h | h | h
  all_goals
    obtain rfl := eqS_eq h
    clear h
  · refine fin 1 (by decide +kernel) ?_
    clear fin
    go_enter Tryz.func184, Tryz.ntmps184
    go_wp2_with fail
    go_ret
    exact ⟨rfl, rfl⟩
  · refine fin 2 (by decide +kernel) ?_
    clear fin
    go_enter Tryz.func184, Tryz.ntmps184
    go_wp2_with fail
    go_ret
    exact ⟨rfl, rfl⟩
  · refine fin 2 (by decide +kernel) ?_
    clear fin
    go_enter Tryz.func184, Tryz.ntmps184
    go_wp2_with fail
    go_ret
    exact ⟨rfl, rfl⟩
  · refine fin 3 (by decide +kernel) ?_
    clear fin
    go_enter Tryz.func184, Tryz.ntmps184
    go_wp2_with fail
    go_ret
    exact ⟨rfl, rfl⟩

theorem OkS.of_below {h : Sd} {st : St} {v : Value} {w : World} {c : Col} (H : SRep w c h st) {w' : World} (hb : Below w.heap.size w w') : OkS h st v w c (.returned v) w' := ⟨rfl, c, H.loc hb, Mv.of_below hb⟩

theorem SRepX.ne {w1 : World} {c1 : Col} {h : Sd} {X : SSh} {st : St} (HX : SRepX w1 c1 h X st) {g : Nat} (hz : (c1 g).1 = 0) : ¬ g = h.g := by
  rintro rfl
  rw [HX.hb.1] at hz
  exact HX.sd hz

/-- What can be done with the reference's builder in any world that only grew. -/
structure ROps (h : Sd) (st : St) (t : Tok) (w : World) (c : Col) (W : World) : Prop where
  rep : SRep W c h st
  ins : Calls Tryz.prog 141 #[.pointer (some ⟨h.g, 0, none⟩), t.val, .int .i64 0] W (OkS h (insM st t 0) (.int .i64 st.ns.length) w c)
  imp : ∀ name, Calls Tryz.prog 142 #[.pointer (some ⟨h.g, 0, none⟩), .string name] W (OkS h (insM st (impTok name) 0) (.int .i64 st.ns.length) w c)
  com : Calls Tryz.prog 146 #[.pointer (some ⟨h.g, 0, none⟩), t.val, .int .i64 0] W (OkS h (cmM st t.text 0) (.tuple #[]) w c)
  com1 : Calls Tryz.prog 146 #[.pointer (some ⟨h.g, 0, none⟩), t.val, .int .i64 (-1)] W (OkS h (cmM st t.text (plIx st.ns (tgtIx st))) (.tuple #[]) w c)
  chars : Calls Tryz.prog 145 #[.pointer (some ⟨h.g, 0, none⟩), .string t.text] W (OkS h (chM st t.text) (.tuple #[]) w c)
  raw : ∀ k, Calls Tryz.prog 183 #[.pointer (some ⟨h.g, 0, none⟩), t.val, .int .i64 k] W (OkS h (rawM st t k) (.tuple #[]) w c)
  only : Calls Tryz.prog 185 #[.pointer (some ⟨h.g, 0, none⟩), t.val] W (OkS h (onlyM st t) (.int .i64 st.ns.length) w c)
  pop : Calls Tryz.prog 148 #[.pointer (some ⟨h.g, 0, none⟩)] W (OkS h { st with stk := st.stk.dropLast } (.tuple #[]) W c)
  last : Calls Tryz.prog 177 #[.pointer (some ⟨h.g, 0, none⟩), .string nTemplate] W fun e w' => e = .returned (.int .i64 (lastOf st.stk [nTemplate])) ∧ W = w'

theorem rops_of {w : World} {c : Col} {h : Sd} {st : St} (H : SRep w c h st) {N : Nat} (wf : Wf N st) (hN : N ≤ 890000) (hs : st.stk.length ≤ 100) (t : Tok) (ht : TkOk w c t) {W : World} (hb : Below w.heap.size w W) : ROps h st t w c W := by
  have H' := H.loc hb
  refine ⟨H', ?_, fun name => ?_, ?_, ?_, ?_, fun k => ?_, ?_, ?_, ?_⟩
  · exact (rInsert H' wf (by omega) (by omega) t (ht.at_.loc hb).src (by have := ht.attrs; omega)).mono fun e w2 ho => ho.after hb
  · exact (rImply H' wf (by omega) (by omega) name).mono fun e w2 ho => ho.after hb
  · exact (rComment H' wf (by omega) (by omega) t (by have := ht.text; omega) 0 0 (.inl ⟨rfl, rfl⟩)).mono fun e w2 ho => ho.after hb
  · exact (rComment H' wf (by omega) (by omega) t (by have := ht.text; omega) (-1) _ (.inr ⟨rfl, rfl⟩)).mono fun e w2 ho => ho.after hb
  · exact (rChars H' wf (by omega) (by omega) t.text (by have := ht.text; omega)).mono fun e w2 ho => ho.after hb
  · exact (rRaw H' wf (by omega) (by omega) t (ht.at_.loc hb).src (by have := ht.attrs; omega) k).mono fun e w2 ho => ho.after hb
  · exact (rOnly H' wf (by omega) (by omega) t (ht.at_.loc hb).src (by have := ht.attrs; omega)).mono fun e w2 ho => ho.after hb
  · exact rPop H' (by omega)
  · exact rLast H' (by omega) wf.op nTemplate

set_option maxRecDepth 100000 in
set_option maxHeartbeats 8000000 in
theorem rOwn {w : World} {c : Col} {h : Sd} {st : St} (H : SRep w c h st) {N : Nat} (wf : Wf N st) (hN : N ≤ 890000) (hs : st.stk.length ≤ 100) (hf : st.fmt.length < 64) (hm : st.modes = []) (t : Tok) (ht : TkOk w c t)
    (hno : lastOf st.stk [nTemplate] < 0) (hbel : belB t = true) :
    Calls Tryz.prog 147 #[.pointer (some ⟨h.g, 0, none⟩), t.val] w (OkS h (ownM st t) (.tuple #[]) w c) := by
  have O := Lib.hid (fun (W : World) (hb : Below w.heap.size w W) => rops_of H wf hN hs t ht hb)
  have hb0 : Below w.heap.size w (w.alloc (.cells t.cells.toArray 24)) := below_alloc (Below.refl _ _) _
  have B0 := HB.new w 24 t.cells
  have BOX : Hid (∀ W C, Mv (PrS h) (w.alloc (.cells t.cells.toArray 24)) c W C → HB W w.heap.size 24 t.cells) := Lib.hid fun W C hm => B0.mvk hm (fun e => H.sd (by unfold PrS at e; rw [← e, H.gd _ (Nat.le_refl _)]))
  obtain ⟨b0, b1, b2, b3, b4, b5, b6, b7, b8⟩ := B0.tok
  have HF := Lib.hid hf
  have HM := Lib.hid hm
  have HNO := Lib.hid hno
  clear H wf ht hs hf hm hno
  cases hE : endB t [nTemplate]
  · have hS : startB t belNames = true := by unfold belB at hbel; rw [hE, Bool.or_false] at hbel; exact hbel
    have hk2 : t.kind = 2 := by unfold startB at hS; simp at hS; exact hS.1
    have hk2' : (t.kind == 2) = true := by simp [hk2]
    have HE := Lib.hid hE
    cases hT : eqS t.name nTemplate
    · have hT' : (t.name.toList == [116, 101, 109, 112, 108, 97, 116, 101]) = false := by rw [← eqS_lit]; exact hT
      have HS := Lib.hid (show startB t rawNames = inS rawNames t.name by unfold startB; rw [decide_eq_true hk2, Bool.true_and])
      have EQ0 : Hid (ownM st t = if inS rawNames t.name = true then rawM st t (stateOf t.name) else onlyM st t) := Lib.hid (by
        unfold ownM inS stateOf
        rw [hT]
        simp only [List.any_cons, List.any_nil, Bool.or_false, Bool.false_eq_true, if_false]
        cases eqS t.name nTitle <;> cases eqS t.name nNoframes <;> cases eqS t.name nStyle <;> cases eqS t.name nScript <;> simp)
      clear hE hT hS hk2 hk2' hbel
      unfold Tok.val Tok.cells
      go_enter Tryz.func147, Tryz.ntmps147
      go_wp2_with fail
      refine Calls.mono (rEnds _ t _ 1 [nTemplate] (by decide) (by exact Strs.mk_ _ (by simp))) ?_
      rintro e w1 ⟨rfl, hb1⟩
      rw [HE.out]
      have hB1 := below_step (below_alloc hb0 _) hb1
      have B1 := (B0.alloc _).below hb1
      obtain ⟨d0, d1, d2, d3, d4, d5, d6, d7, d8⟩ := B1.tok
      clear b0 b1 b2 b3 b4 b5 b6 b7 b8
      go_wp2_with fail
      refine Calls.mono (rStarts _ t _ 4 rawNames (by decide) (by exact Strs.mk_ _ (by simp))) ?_
      rintro e w2 ⟨rfl, hb2⟩
      have hB2 := below_step (below_alloc hB1 _) hb2
      have B2 := (B1.alloc _).below hb2
      obtain ⟨b0, b1, b2, b3, b4, b5, b6, b7, b8⟩ := B2.tok
      clear d0 d1 d2 d3 d4 d5 d6 d7 d8
      rw [HS.out]
      cases hI : inS rawNames t.name
      · have EQ := Lib.hid (EQ0.out.trans (if_neg (by rw [hI]; simp)))
        clear hI
        go_wp2_with fail
        refine (O.out _ hB2).only.mono ?_
        rintro e w3 ⟨rfl, c3, H3, m3⟩
        go_wp2_with fail
        rw [EQ.out]
        go_end0
        exact ⟨rfl, c3, H3, m3⟩
      · have EQ := Lib.hid (EQ0.out.trans (if_pos hI))
        have ST := Lib.hid (fun (W : World) => rState W t.name hI)
        have RW := Lib.hid (fun (W : World) (hb : Below w2.heap.size w2 W) => (O.out _ (below_step hB2 hb)).raw (stateOf t.name))
        clear hI
        generalize stateOf t.name = ks at *
        unfold Tok.val Tok.cells at RW
        go_wp2_with fail
        go_region_with (first
          | (go_at_call 184; refine (ST.out _).mono ?_; rintro e w3 ⟨rfl, rfl⟩)
          | (go_at_call 183; refine (RW.out _ (below_drew (Below.refl _ _))).mono ?_; rintro e w3 ⟨rfl, c3, H3, m3⟩))
        all_goals
          go_wp2_with fail
          rw [EQ.out]
          go_end0
          exact ⟨rfl, c3, H3, m3⟩
    · have hT' : (t.name.toList == [116, 101, 109, 112, 108, 97, 116, 101]) = true := by rw [← eqS_lit]; exact hT
      have EQ : Hid (ownM st t = { insM st t 0 with fmt := st.fmt ++ [-1], mode := 15, modes := [15] }) := Lib.hid (by
        unfold ownM tmplM
        rw [hT, if_pos rfl, if_pos hk2, HM.out]; rfl)
      clear hE hT hS hk2 hk2' hbel
      unfold Tok.val Tok.cells
      go_enter Tryz.func147, Tryz.ntmps147
      go_wp2_with fail
      refine Calls.mono (rEnds _ t _ 1 [nTemplate] (by decide) (by exact Strs.mk_ _ (by simp))) ?_
      rintro e w1 ⟨rfl, hb1⟩
      rw [HE.out]
      have hB1 := below_step (below_alloc hb0 _) hb1
      have B1 := (B0.alloc _).below hb1
      obtain ⟨d0, d1, d2, d3, d4, d5, d6, d7, d8⟩ := B1.tok
      clear b0 b1 b2 b3 b4 b5 b6 b7 b8
      go_wp2_with fail
      refine (O.out _ hB1).ins.mono ?_
      rintro e w2 ⟨rfl, c2, H2, m2⟩
      have MK := Lib.hid (rMark H2 HF.out)
      clear d0 d1 d2 d3 d4 d5 d6 d7 d8 H2
      go_wp2_with fail
      refine MK.out.mono ?_
      rintro e w3 ⟨rfl, c3, ⟨X, HX⟩, m3⟩
      obtain ⟨S1, S2⟩ := setMode HX 15
      have f3 := HX.hb.frozen 3
      have f5 := HX.hb.frozen 5
      have hl3 := HX.hb.lt
      obtain ⟨-, -, -, b3, -, b5, -⟩ := HX.bc
      have hmd : ({ insM st t 0 with fmt := (insM st t 0).fmt ++ [-1] } : St).modes = [] := HM.out
      rw [hmd] at b5
      obtain ⟨j0, hj0, hy0, hy1, hy2⟩ := info_parts info3
      have SS := Lib.hid (And.intro S1 ((m2.trans m3).trans S2))
      obtain ⟨-, -, -, -, -, y5, -⟩ := S1.bc
      rw [show ({ insM st t 0 with fmt := (insM st t 0).fmt ++ [-1], mode := 15 } : St).modes = [] from HM.out] at y5
      have Y := Lib.hid (And.intro y5 (And.intro (S1.hb.frozen 5) S1.hb.lt))
      clear HX S1 S2 m2 m3 hmd y5
      go_wp2_with (at_builtin; first
        | (refine wpList_append_row _ (fun _ => (0, 0, 0)) (9, 9, 9) rfl _ _ 31 rfl 3 j0 _ 1 8 Tryz.underlying31 hj0 hy0 hy1 hy2 rfl (by decide) none 0 0 [] rfl (by exact RowOk.none_) X.mA 0 X.mcap [] rfl (by rfl) (by simp) (by simp) (by simp) (by unfold maxLen; omega) (by omega) ?_; intro A2 cp2 w4 c4 hrow2 hmv2)
        | (refine wpList_append_row _ c4 (9, 9, 9) rfl _ _ 31 rfl 3 j0 _ 1 8 Tryz.underlying31 hj0 hy0 hy1 hy2 rfl (by decide) A2 0 cp2 [] rfl (by simpa using hrow2.kp (kp_below (below_alloc (Below.refl _ _) _))) _ 1 1 [.int .i64 15] rfl (by rfl) (by simp) (by exact (HB.at_ (by simp)).news) (by simp [Value.oneCell']) (by unfold maxLen; omega) (by omega) ?_; intro A3 cp3 w5 c5 hrow3 hmv3; have M3 : Mv (· = (9, 9, 9)) (w3.setCell ⟨h.g, 3, none⟩ (.int .i64 15)) (fun _ => (0, 0, 0)) w5 c5 := hmv2.trans ((Mv.of_below (below_alloc (Below.refl _ _) _)).trans hmv3); have hB3 := below_of_mv M3; have z1 : w5.cell? ⟨h.g, 5, none⟩ = some (.slice X.mA 0 X.mcap) := ((bcell hB3).1 h.g 5 Y.out.2.2).trans Y.out.1; have z2 : w5.frozen? ⟨h.g, 5, none⟩ = false := ((bcell hB3).2 h.g 5 Y.out.2.2).trans Y.out.2.1; have z3 : h.g < w5.heap.size := Nat.lt_of_lt_of_le Y.out.2.2 hB3.size))
      have RN := RowNew.of_row M3 hrow3 (Nat.le_refl _)
      obtain ⟨c6, RO, hc6⟩ := RN.own c3 (h.sd, 10, 0)
      have MB : Mv (· = (h.sd, 10, 0)) (w3.setCell ⟨h.g, 3, none⟩ (.int .i64 15)) c3 w5 c6 := Mv.own_new SS.out.1.gd hB3 (by
        rcases hc6 with h1 | ⟨g, h1, h2, h3, cur, h4⟩
        · exact .inl h1
        · exact .inr ⟨g, h1, h2, h3, cur, _, h4⟩)
      have RO' : RowOk w5 c6 (h.sd, 10, 0) 3 1 A3 ([15] : List Int).length cp3 (intCells [15]) := by
        simpa [intCells] using RO
      obtain ⟨K1, K2⟩ := sModes SS.out.1 RO' MB
      have FIN := Lib.hid (And.intro K1 (SS.out.2.trans K2))
      rw [EQ.out]
      go_end0
      exact ⟨rfl, c6, ⟨_, FIN.out.1⟩, FIN.out.2⟩
  · have hk : t.kind = 3 ∧ t.name = nTemplate := by
      unfold endB inS at hE
      simp at hE
      exact ⟨hE.1, eqS_eq hE.2⟩
    have EQ : Hid (ownM st t = st) := Lib.hid (by
      unfold ownM tmplM
      rw [hk.2, if_pos (by decide +kernel), if_neg (by omega), if_neg (by have := HNO.out; omega)])
    have hq : ¬ (0 : Int) ≤ lastOf st.stk [nTemplate] := by have := HNO.out; omega
    have HE := Lib.hid hE
    clear hE hk hbel
    unfold Tok.val Tok.cells
    go_enter Tryz.func147, Tryz.ntmps147
    go_wp2_with fail
    refine Calls.mono (rEnds _ t _ 1 [nTemplate] (by decide) (by exact Strs.mk_ _ (by simp))) ?_
    rintro e w1 ⟨rfl, hb1⟩
    rw [HE.out]
    have hB1 := below_step (below_alloc hb0 _) hb1
    clear b0 b1 b2 b3 b4 b5 b6 b7 b8
    have LA := Lib.hid (O.out _ hB1).last
    generalize lastOf st.stk [nTemplate] = q at *
    go_wp2_with fail
    refine LA.out.mono ?_
    rintro e w2 ⟨rfl, rfl⟩
    go_wp2_with fail
    refine bodyPost_ret (results_none rfl _ _ _) rfl ?_
    rw [EQ.out]
    exact ⟨rfl, c, (O.out _ hB1).rep, Mv.of_below hB1⟩
end Go.Proofs.YtjmlkmlbhfkhbaaGreatDoor
namespace Go.Proofs.YtjmlkmlbhfkhbaaGreatDoor
open Go Go.RowKit

def headR (st : St) (t : Tok) : St × Bool :=
  if t.kind = 1 then (st, false)
  else if strangeB t && !belB t then (st, false)
  else if startB t [mHead] then (st, false)
  else if t.kind = 5 then (chM st t.text, false)
  else if t.kind = 4 then (cmM st t.text (plIx st.ns (tgtIx st)), false)
  else if startB t [mHtml] then (htmlM st t, false)
  else if belB t then (ownM st t, false)
  else if startB t [mNoscript] then ({ insM st t 0 with mode := 4 }, false)
  else ({ st with stk := st.stk.dropLast, mode := 5 }, !endB t [mHead])

theorem startB_kind {t : Tok} {ns : List Str} (h : t.kind ≠ 2) : startB t ns = false := by unfold startB; simp [h]
theorem endB_kind {t : Tok} {ns : List Str} (h : t.kind ≠ 3) : endB t ns = false := by unfold endB; simp [h]
theorem strangeB_kind {t : Tok} (h : t.kind ≠ 3) : strangeB t = false := by unfold strangeB; simp [h]
theorem belB_kind {t : Tok} (h2 : t.kind ≠ 2) (h3 : t.kind ≠ 3) : belB t = false := by unfold belB; rw [startB_kind h2, endB_kind h3]; rfl
/-- A start tag of head is none of the others. -/
theorem head_not {t : Tok} (h : startB t [mHead] = true) : t.kind = 2 ∧ belB t = false ∧ startB t [mHtml] = false ∧ startB t [mNoscript] = false ∧ startB t [mBody] = false ∧ strangeB t = false := by
  obtain ⟨k, e⟩ := startB_one h
  refine ⟨k, ?_, ?_, ?_, ?_, strangeB_kind (by omega)⟩
  · unfold belB startB endB
    rw [k, e]
    decide +kernel
  all_goals
    unfold startB
    rw [k, e]
    decide +kernel

theorem headR_eq (st : St) (t : Tok) : headR st t = headM st t := by
  unfold headR headM
  by_cases k1 : t.kind = 1
  · rw [if_pos k1, if_pos k1]
  rw [if_neg k1, if_neg k1]
  by_cases k5 : t.kind = 5
  · rw [strangeB_kind (by omega), startB_kind (by omega)]
    simp [k5]
  rw [if_neg k5, if_neg k5]
  by_cases k4 : t.kind = 4
  · rw [strangeB_kind (by omega), startB_kind (by omega)]
    simp [k4]
  rw [if_neg k4, if_neg k4]
  cases hH : startB t [mHead]
  · cases hS : strangeB t
    · simp
    · have hk : t.kind = 3 := by
        by_cases h : t.kind = 3
        · exact h
        · rw [strangeB_kind h] at hS; cases hS
      rw [startB_kind (ns := [mHtml]) (by omega), startB_kind (ns := [mNoscript]) (by omega)]
      cases hB : belB t <;> simp
  · obtain ⟨-, h1, h2, h3, -, h5⟩ := head_not hH
    simp [h1, h2, h3, h5]

def earlyB (m : Int) (t : Tok) : Bool := (t.kind == 4) || ((t.kind == 5) || (decide (0 < m) && ((t.kind == 1) || strangeB t)))
def earlyM (st : St) (t : Tok) : St := if t.kind = 4 then (if st.mode = 2 then cmM st t.text (plIx st.ns (tgtIx st)) else cmM st t.text 0) else st
def dtM (st : St) (t : Tok) : St := { st with ns := hangN (addN st.ns (dtC t.name).nd) 0 st.ns.length, quirks := t.quirks || !eqS t.name mHtml, mode := 1 }
def beforeR (st : St) (t : Tok) : St × Bool :=
  if earlyB st.mode t then (earlyM st t, false)
  else if st.mode = 0 then (if t.kind = 1 then (dtM st t, false) else ({ st with quirks := true, mode := 1 }, true))
  else if st.mode = 1 then (if startB t [mHtml] then ({ insM st t 0 with mode := 2 }, false) else ({ insM st (impTok mHtml) 0 with mode := 2 }, true))
  else if startB t [mHtml] then (htmlM st t, false)
  else if startB t [mHead] then ({ insM st t 0 with head := st.ns.length, mode := 3 }, false)
  else ({ insM st (impTok mHead) 0 with head := st.ns.length, mode := 3 }, true)

theorem beforeR_eq {st : St} (h : st.mode = 0 ∨ st.mode = 1 ∨ st.mode = 2) (t : Tok) : beforeR st t = stepM st t := by
  unfold beforeR stepM earlyB earlyM
  rcases h with h | h | h
  · rw [h]
    unfold initialM dtM
    by_cases k4 : t.kind = 4
    · simp [k4]
    · by_cases k5 : t.kind = 5
      · simp [k5]
      · by_cases k1 : t.kind = 1 <;> simp [k4, k5, k1]
  · rw [h]
    unfold befHtmlM
    by_cases k4 : t.kind = 4
    · simp [k4]
    · by_cases k5 : t.kind = 5
      · simp [k5]
      · by_cases k1 : t.kind = 1
        · simp [k1]
        · cases strangeB t <;> simp [k4, k5, k1]
  · rw [h]
    unfold befHeadM
    by_cases k4 : t.kind = 4
    · simp [k4]
    · by_cases k5 : t.kind = 5
      · simp [k5]
      · by_cases k1 : t.kind = 1
        · simp [k1]
        · cases strangeB t <;> simp [k4, k5, k1]

def noscriptR (st : St) (t : Tok) : St × Bool :=
  if t.kind = 1 then (st, false)
  else if startB t [mHead, mNoscript] then (st, false)
  else if t.kind = 3 ∧ endB t [mNoscript, mBr] = false then (st, false)
  else if t.kind = 5 then headM st t
  else if t.kind = 4 then headM st t
  else if startB t nosNames then headM st t
  else ({ st with stk := st.stk.dropLast, mode := 3 }, !endB t [mNoscript])

theorem noscriptR_eq (st : St) (t : Tok) : noscriptR st t = noscriptM st t := by
  unfold noscriptR noscriptM
  by_cases k1 : t.kind = 1
  · rw [if_pos k1, if_pos k1]
  rw [if_neg k1, if_neg k1]
  cases hH : startB t [mHead, mNoscript]
  · simp only [Bool.false_eq_true, if_false]
    by_cases k3 : t.kind = 3
    · have e : endB t [mNoscript, mBr] = (eqS t.name mNoscript || eqS t.name mBr) := by unfold endB inS; simp [k3]
      rw [startB_kind (ns := nosNames) (by omega), e]
      simp [k3]
    · simp [k3]
  · simp

def afterR (st : St) (t : Tok) : St × Bool :=
  if t.kind = 5 then headM st t
  else if t.kind = 4 then headM st t
  else if startB t [mHtml] then headM st t
  else if endB t [nTemplate] then headM st t
  else if t.kind = 1 then (st, false)
  else if startB t [mHead, mFrameset] then (st, false)
  else if strangeB t then (st, false)
  else if endB t [mHead] then (st, false)
  else if belB t then (remM (ownM (pushM st) t), false)
  else if startB t [mBody] then ({ insM st t 0 with mode := 6 }, false)
  else ({ insM st (impTok mBody) 0 with mode := 6 }, true)

theorem afterR_eq (st : St) (t : Tok) : afterR st t = aftHeadM st t := by
  unfold afterR aftHeadM
  by_cases k5 : t.kind = 5
  · rw [if_pos k5, if_pos k5]
    unfold headM
    rw [if_neg (by omega), if_pos k5]
  rw [if_neg k5, if_neg k5]
  by_cases k4 : t.kind = 4
  · rw [if_pos k4, if_pos k4]
    unfold headM
    rw [if_neg (by omega), if_neg k5, if_pos k4]
  rw [if_neg k4, if_neg k4]
  by_cases k1 : t.kind = 1
  · rw [startB_kind (by omega), endB_kind (by omega)]
    simp [k1]
  by_cases k2 : t.kind = 2
  · rw [endB_kind (ns := [nTemplate]) (by omega), endB_kind (ns := [mHead]) (by omega), strangeB_kind (by omega)]
    cases hH : startB t [mHtml]
    · cases hB : startB t [mBody]
      · simp [k1]
      · obtain ⟨-, e⟩ := startB_one hB
        have f1 : startB t [mHead, mFrameset] = false := by unfold startB; rw [k2, e]; decide +kernel
        have f2 : belB t = false := by unfold belB startB endB; rw [k2, e]; decide +kernel
        simp [k1, f1, f2]
    · obtain ⟨-, e⟩ := startB_one hH
      have f1 : startB t [mHead, mFrameset] = false := by unfold startB; rw [k2, e]; decide +kernel
      unfold headM
      simp [k1, k5, k4, f1, hH]
  · rw [startB_kind (ns := [mHtml]) k2, startB_kind (ns := [mHead, mFrameset]) k2, startB_kind (ns := [mBody]) k2]
    have f2 : belB t = endB t [nTemplate] := by unfold belB; rw [startB_kind k2]; rfl
    rw [f2]
    cases endB t [nTemplate]
    · cases strangeB t <;> simp [k1]
    · simp [k1]

def txtR (st : St) (t : Tok) : St × Bool :=
  if ((t.kind == 5) || ((t.kind == 6) || (t.kind == 7))) then (chM st t.text, false)
  else ({ st with stk := st.stk.dropLast, mode := st.back }, t.kind == 8)
theorem txtR_eq (st : St) (t : Tok) : txtR st t = txtM st t := by
  unfold txtR txtM
  by_cases k5 : t.kind = 5
  · simp [k5]
  by_cases k6 : t.kind = 6
  · simp [k6]
  by_cases k7 : t.kind = 7
  · simp [k7]
  simp [k5, k6, k7]
  by_cases k8 : t.kind = 8 <;> simp [k8]
end Go.Proofs.YtjmlkmlbhfkhbaaGreatDoor
