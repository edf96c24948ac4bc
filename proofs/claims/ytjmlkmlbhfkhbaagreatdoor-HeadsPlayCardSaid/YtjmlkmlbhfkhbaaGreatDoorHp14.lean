/-
  The law's three trees that grow: grows (7).
  grows, walked.
  Every method of a builder that is none. Printed by gen/none.py.
  Insert, Only, Imply, Current, Is of a builder that is none.
-/
import Derived.Test.YtjmlkmlbhfkhbaaGreatDoorHp13
set_option linter.unusedSimpArgs false
set_option linter.unusedVariables false
namespace Go.Proofs.YtjmlkmlbhfkhbaaGreatDoor
open Go Go.RowKit
abbrev nBody : Str := ⟨#[98, 111, 100, 121]⟩
abbrev nB : Str := ⟨#[98]⟩
abbrev nTd : Str := ⟨#[116, 100]⟩
def sA1 : St := insM st0 (impTok nHtml) 0
def sA2 : St := insM sA1 (impTok nBody) 0
def sA3 : St := insM sA2 (impTok nTable) 0
def sA4 : St := { sA3 with foster := true }
def sB3 : St := insM sA2 (impTok nB) 0
def sB4 : St := { sB3 with fmt := [3] }
def sB5 : St := { sB4 with stk := sB4.stk.dropLast }
def sC2 : St := insM sA1 (impTok nTd) 0
def sC3 : St := resetM sC2
def sC4 : St := insM sC3 (impTok nTr) 0
def sC5 : St := resetM sC4

theorem wA1 : Wf 1004 sA1 := Wf.st0.ins (impTok nHtml) 0 (by simp [impTok])
theorem wA2 : Wf 2007 sA2 := wA1.ins (impTok nBody) 0 (by simp [impTok])
theorem wA3 : Wf 3010 sA3 := wA2.ins (impTok nTable) 0 (by simp [impTok])
theorem wB3 : Wf 3010 sB3 := wA2.ins (impTok nB) 0 (by simp [impTok])
theorem wC2 : Wf 2007 sC2 := wA1.ins (impTok nTd) 0 (by simp [impTok])
theorem Wf.mode {N : Nat} {st : St} (h : Wf N st) (m : Int) : Wf N { st with mode := m } := ⟨h.sz, h.op, h.up, h.doc, h.cont, h.kid, h.nf⟩
theorem Wf.fmt {N : Nat} {st : St} (h : Wf N st) (m : List Int) : Wf N { st with fmt := m } := ⟨h.sz, h.op, h.up, h.doc, h.cont, h.kid, h.nf⟩
theorem wC3 : Wf 2007 sC3 := wC2.mode _
theorem wC4 : Wf 3010 sC4 := wC3.ins (impTok nTr) 0 (by simp [impTok])
theorem wB5 : Wf 3010 sB5 := (wB3.fmt [3]).sub (l := sB4.stk.dropLast) fun o ho => List.dropLast_subset _ ho

theorem bImply' {w : World} {c : Col} {h : Hd} {st st' : St} (H : BRep w c h st) {N : Nat} (wf : Wf N st) (hN : N ≤ 10000000) (name : Str) {k : Int} (hl : st.stk.length < 512) (hk : (st.ns.length : Int) = k) (hst : insM st (impTok name) 0 = st') :
    Calls Tryz.prog 47 #[.pointer (some ⟨h.b, 0, none⟩), .string name] w (OkB h st' (.int .i64 k) w c) := by
  subst hk; subst hst
  exact bImply H wf hN hl name

theorem some_of_map {α β : Type} {o : Option α} {f : α → β} {b : β} (h : o.map f = some b) : ∃ a, o = some a ∧ f a = b := by
  cases o with
  | none => simp at h
  | some a => exact ⟨a, rfl, by simpa using h⟩

section
variable {w : World} {c : Col} {h : Hd}

/-- The first tree's place. -/
theorem gPlace (H : BRep w c h sA4) : Calls Tryz.prog 28 #[.pointer (some ⟨h.b, 0, none⟩), .int .i64 3] w fun e w' => e = .returned (.tuple #[.int .i64 2, .int .i64 3]) ∧ Below w.heap.size w w' := by
  obtain ⟨n, hn, e1⟩ := some_of_map (show (sA4.ns[3]?).map (fun n => (n.parent, htmlN n [nTable, nTbody, nTfoot, nThead, nTr])) = some (2, true) by decide +kernel)
  obtain ⟨p, hp, -⟩ := some_of_map (show (sA4.ns[2]?).map (fun n => n.parent) = some 1 by decide +kernel)
  exact bPlaceF H (N := 3010) wA3.sz (by omega) (by decide +kernel) wA3.op rfl (k := 2) (by decide +kernel) (by decide +kernel) (by omega) (t := 3) (by decide +kernel) hn (p := 2) (by simpa using congrArg Prod.fst e1) hp (g := 3) hn (by simpa using congrArg Prod.snd e1)

theorem gPush (H : BRep w c h sB3) : Calls Tryz.prog 60 #[.pointer (some ⟨h.l, 0, none⟩), .int .i64 3] w (OkB h sB4 (.int .i64 0) w c) := by
  obtain ⟨n, hn, e1⟩ := some_of_map (show (sB3.ns[3]?).map (fun n => n.kind) = some 3 by decide +kernel)
  exact fPush0 H wB3.sz (by omega) rfl hn e1

theorem gPop (H : BRep w c h sB4) : Calls Tryz.prog 61 #[.pointer (some ⟨h.s, 0, none⟩)] w (OkB h sB5 (.int .i64 3) w c) := by
  have := sPop H (by decide +kernel)
  rw [show topOf sB4.stk = 3 by decide +kernel] at this
  exact this

theorem gRebuild (H : BRep w c h sB5) : Calls Tryz.prog 24 #[.pointer (some ⟨h.b, 0, none⟩)] w fun e w' => e = .returned (.tuple #[]) ∧ ∃ c' st, BRep w' c' h st ∧ st.fmt = [4] ∧ Mv (Pr h) w c w' c' := by
  obtain ⟨n, hn, e1⟩ := some_of_map (show (sB5.ns[3]?).map (fun n => (n.kind, n.attrs.length)) = some (3, 0) by decide +kernel)
  refine (bRebuild1 H wB5 (by omega) (i := 3) (n := n) rfl (by decide +kernel) ?_ hn (by simpa using congrArg Prod.fst e1) (by have := congrArg Prod.snd e1; simp at this; rw [this]; simp)).mono ?_
  · intro k o ho
    have hk := (List.getElem?_eq_some_iff.1 ho).1
    have h2 : sB5.stk.map (fun o => o.node) = [1, 2] := by decide +kernel
    have : (sB5.stk.map (fun o => o.node))[k]? = some o.node := by rw [List.getElem?_map, ho]; rfl
    rw [h2] at this
    rcases k with _ | _ | k
    · simp at this; rw [← this]; rfl
    · simp at this; rw [← this]; rfl
    · simp at this
  · rintro e w' ⟨rfl, c', H', hm'⟩
    exact ⟨rfl, c', _, H', (by show [(sB5.ns.length : Int)] = [4]; decide +kernel), hm'⟩

theorem names_ok {st : St} (h : (st.ns.all fun n => decide (n.name.size ≤ 1000)) = true) : ∀ (i : Nat) (n : Nd), st.ns[i]? = some n → n.name.size ≤ maxLen := by
  intro i n hn
  have := List.all_eq_true.1 h n (List.mem_of_getElem? hn)
  have h1 : n.name.size ≤ 1000 := by simpa using this
  unfold maxLen
  omega

theorem gReset1 (H : BRep w c h sC2) (hby : ByOk w c) : Calls Tryz.prog 26 #[.pointer (some ⟨h.b, 0, none⟩)] w (OkB h sC3 (.tuple #[]) w c) :=
  bReset H hby (N := 3010) (wC2.more (by omega)).sz (by omega) (by decide +kernel) (by decide +kernel) wC2.op (names_ok (by decide +kernel))
theorem gReset2 (H : BRep w c h sC4) (hby : ByOk w c) : Calls Tryz.prog 26 #[.pointer (some ⟨h.b, 0, none⟩)] w (OkB h sC5 (.tuple #[]) w c) :=
  bReset H hby (N := 3010) wC4.sz (by omega) (by decide +kernel) (by decide +kernel) wC4.op (names_ok (by decide +kernel))
theorem m3 : sC3.mode = 14 := by decide +kernel
theorem m5 : sC5.mode = 13 := by decide +kernel
end

def Own : Key → Prop := fun k => k.1 ≠ 0
theorem Mv.own {h : Hd} {w w' : World} {c c' : Col} (hs : h.sd ≠ 0) (hm : Mv (Pr h) w c w' c') : Mv Own w c w' c' := hm.mono (Pr.ne hs)
end Go.Proofs.YtjmlkmlbhfkhbaaGreatDoor
namespace Go.Proofs.YtjmlkmlbhfkhbaaGreatDoor
open Go Go.RowKit

/-- The state between the trees. -/
def Mid (w : World) (c : Col) (wx : World) : Prop := ∃ cx, Mv Own w c wx cx
theorem ByOk.own {w w' : World} {c c' : Col} (H : ByOk w c) (hm : Mv Own w c w' c') : ByOk w' c' := H.mv hm fun _ h => h

set_option maxRecDepth 100000 in
set_option maxHeartbeats 8000000 in
theorem grows7 {w : World} {c : Col} (hg : Good w c) (hby : ByOk w c) :
    Calls Tryz.prog 7 #[] w fun e w' => e = .returned (.bool true) ∧ ∃ c', Mv Own w c w' c' := by
  have NEW : Hid (∀ (W : World) (C : Col), Mv Own w c W C → Calls Tryz.prog 50 #[] W fun e w' => ∃ c' h, h.sd = 1 ∧ e = .returned (.pointer (some ⟨h.b, 0, none⟩)) ∧ BRep w' c' h st0 ∧ Mv Own w c w' c') := Lib.hid fun W C hm => by
    refine (bNew (hm.gd hg) (sd := 1) (by decide)).mono ?_
    rintro e w' ⟨c', h, e1, e2, H, hM⟩
    exact ⟨c', h, e1, e2, H, hm.trans (hM.mono fun _ h => h.elim)⟩
  have BY := Lib.hid hby
  clear hg hby
  go_enter Tryz.func7, Tryz.ntmps7
  go_wp2_with fail
  refine (NEW.out w c (Mv.refl _ _ _)).mono ?_
  rintro e w1 ⟨c1, h1, hs1, rfl, H1, m1⟩
  go_wp2_with fail
  refine (bImply' H1 (st' := sA1) Wf.st0 (by omega) nHtml (k := 1) (by decide +kernel) (by decide +kernel) rfl).mono ?_
  rintro e w2 ⟨rfl, c2, H2, n2⟩
  have m2 := m1.trans (n2.own (by rw [hs1]; decide))
  go_wp2_with fail
  refine (bImply' H2 (st' := sA2) wA1 (by omega) nBody (k := 2) (by decide +kernel) (by decide +kernel) rfl).mono ?_
  rintro e w3 ⟨rfl, c3, H3, n3⟩
  have m3 := m2.trans (n3.own (by rw [hs1]; decide))
  go_wp2_with fail
  refine (bImply' H3 (st' := sA3) wA2 (by omega) nTable (k := 3) (by decide +kernel) (by decide +kernel) rfl).mono ?_
  rintro e w4 ⟨rfl, c4, H4, n4⟩
  have m4 := m3.trans (n4.own (by rw [hs1]; decide))
  go_wp2_with fail
  refine (bFoster H4 true).mono ?_
  rintro e w5 ⟨rfl, c5, H5, n5⟩
  have m5 := m4.trans (n5.own (by rw [hs1]; decide))
  go_wp2_with fail
  refine (gPlace H5).mono ?_
  rintro e w6 ⟨rfl, hb6⟩
  have m6 := m5.trans (Mv.of_below hb6)
  clear H1 H2 H3 H4 H5 n2 n3 n4 n5 m1 m2 m3 m4 m5 hb6 hs1
  go_wp2_with fail
  refine (NEW.out w6 c5 m6).mono ?_
  rintro e w1 ⟨c1, h1, hs1, rfl, H1, m1⟩
  go_wp2_with fail
  refine (bImply' H1 (st' := sA1) Wf.st0 (by omega) nHtml (k := 1) (by decide +kernel) (by decide +kernel) rfl).mono ?_
  rintro e w2 ⟨rfl, c2, H2, n2⟩
  have m2 := m1.trans (n2.own (by rw [hs1]; decide))
  go_wp2_with fail
  refine (bImply' H2 (st' := sA2) wA1 (by omega) nBody (k := 2) (by decide +kernel) (by decide +kernel) rfl).mono ?_
  rintro e w3 ⟨rfl, c3, H3, n3⟩
  have m3 := m2.trans (n3.own (by rw [hs1]; decide))
  go_wp2_with fail
  refine (bImply' H3 (st' := sB3) wA2 (by omega) nB (k := 3) (by decide +kernel) (by decide +kernel) rfl).mono ?_
  rintro e w4 ⟨rfl, c4, H4, n4⟩
  have m4 := m3.trans (n4.own (by rw [hs1]; decide))
  have F1 := Lib.hid (bFormats H4)
  go_wp2_with (go_at_call 32; refine F1.out.mono ?_; rintro e w5 ⟨rfl, rfl⟩)
  refine (gPush H4).mono ?_
  rintro e w5 ⟨rfl, c5, H5, n5⟩
  have m5 := m4.trans (n5.own (by rw [hs1]; decide))
  have S1 := Lib.hid (bStack H5)
  go_wp2_with (go_at_call 31; refine S1.out.mono ?_; rintro e w6 ⟨rfl, rfl⟩)
  refine (gPop H5).mono ?_
  rintro e w6 ⟨rfl, c6, H6, n6⟩
  have m6 := m5.trans (n6.own (by rw [hs1]; decide))
  go_wp2_with fail
  refine (gRebuild H6).mono ?_
  rintro e w7 ⟨rfl, c7, s7, H7, f7, n7⟩
  have m7 := m6.trans (n7.own (by rw [hs1]; decide))
  have F2 := Lib.hid (bFormats H7)
  obtain ⟨fA, fc, fv⟩ := H7.fv (by rw [f7]; decide)
  have AT := Lib.hid (fAt fv (k := 0) (n := 4) (by rw [f7]; rfl))
  clear fv F1 S1
  go_wp2_with (first
    | (go_at_call 32; refine F2.out.mono ?_; rintro e w8 ⟨rfl, rfl⟩)
    | (go_at_call 62; refine AT.out.mono ?_; rintro e w8 ⟨rfl, m, rfl⟩))
  have m8 := m7.trans (Mv.of_below (bdrewN w7 m))
  clear H1 H2 H3 H4 H5 H6 H7 n2 n3 n4 n5 n6 n7 m1 m2 m3 m4 m5 m6 m7 hs1 F2 AT f7
  go_wp2_with fail
  refine (NEW.out _ c7 m8).mono ?_
  rintro e w1 ⟨c1, h1, hs1, rfl, H1, m1⟩
  go_wp2_with fail
  refine (bImply' H1 (st' := sA1) Wf.st0 (by omega) nHtml (k := 1) (by decide +kernel) (by decide +kernel) rfl).mono ?_
  rintro e w2 ⟨rfl, c2, H2, n2⟩
  have m2 := m1.trans (n2.own (by rw [hs1]; decide))
  go_wp2_with fail
  refine (bImply' H2 (st' := sC2) wA1 (by omega) nTd (k := 2) (by decide +kernel) (by decide +kernel) rfl).mono ?_
  rintro e w3 ⟨rfl, c3, H3, n3⟩
  have m3 := m2.trans (n3.own (by rw [hs1]; decide))
  go_wp2_with fail
  refine (gReset1 H3 (BY.out.own m3)).mono ?_
  rintro e w4 ⟨rfl, c4, H4, n4⟩
  have m4 := m3.trans (n4.own (by rw [hs1]; decide))
  have MO := Lib.hid (bMode H4)
  rw [Go.Proofs.YtjmlkmlbhfkhbaaGreatDoor.m3] at MO
  go_wp2_with (go_at_call 33; refine MO.out.mono ?_; rintro e w8 ⟨rfl, rfl⟩)
  refine (bImply' H4 (st' := sC4) wC3 (by omega) nTr (k := 3) (by decide +kernel) (by decide +kernel) rfl).mono ?_
  rintro e w5 ⟨rfl, c5, H5, n5⟩
  have m5 := m4.trans (n5.own (by rw [hs1]; decide))
  clear MO
  go_wp2_with fail
  refine (gReset2 H5 (BY.out.own m5)).mono ?_
  rintro e w6 ⟨rfl, c6, H6, n6⟩
  have m6 := m5.trans (n6.own (by rw [hs1]; decide))
  have MO := Lib.hid (bMode H6)
  rw [Go.Proofs.YtjmlkmlbhfkhbaaGreatDoor.m5] at MO
  have ER := Lib.hid (bErr H6)
  go_wp2_with (first
    | (go_at_call 33; refine MO.out.mono ?_; rintro e w8 ⟨rfl, rfl⟩)
    | (go_at_call 41; refine ER.out.mono ?_; rintro e w8 ⟨rfl, hb8⟩))
  go_ret
  exact ⟨rfl, c6, m6.trans (Mv.of_below hb8)⟩
end Go.Proofs.YtjmlkmlbhfkhbaaGreatDoor
namespace Go.Proofs.YtjmlkmlbhfkhbaaGreatDoor
open Go Go.RowKit

/-- A builder that is none: nil, or of no arena. -/
def NB (w : World) (v : Value) : Prop := v = .pointer none ∨ ∃ g, v = .pointer (some ⟨g, 0, none⟩) ∧ w.cell? ⟨g, 0, none⟩ = some (.pointer none)
theorem NB.loc {w w' : World} {v : Value} (h : NB w v) (hb : Below w.heap.size w w') : NB w' v := by
  rcases h with rfl | ⟨g, rfl, hc⟩
  · exact .inl rfl
  · exact .inr ⟨g, rfl, by rw [hb.cell (block_lt_of_cell hc)]; exact hc⟩

section
variable {w : World} {v : Value}
theorem nNone (H : NB w v) : Calls Tryz.prog 63 #[v] w fun e w' => e = .returned (.bool true) ∧ w = w' := by
  rcases H with rfl | ⟨g, rfl, hc⟩
  · go_enter Tryz.func63, Tryz.ntmps63
    go_wp2_with fail
    go_ret
    exact ⟨rfl, rfl⟩
  · go_enter Tryz.func63, Tryz.ntmps63
    go_wp2_with fail
    go_ret
    exact ⟨rfl, rfl⟩


set_option maxHeartbeats 400000 in
theorem nSet (H : NB w v) (m : Int) : Calls Tryz.prog 8 #[v, .int .i64 m] w fun e w' => e = .returned (.tuple #[]) ∧ w = w' := by
  have N := Lib.hid (nNone H)
  clear H
  go_enter Tryz.func8, Tryz.ntmps8
  go_wp2_with (go_at_call 63; refine N.out.mono ?_; rintro e w1 ⟨rfl, rfl⟩)
  first
    | go_end0
    | refine bodyPost_ret (results_none rfl _ _ _) rfl ?_
  exact ⟨rfl, rfl⟩

set_option maxHeartbeats 400000 in
theorem nKeep (H : NB w v)  : Calls Tryz.prog 9 #[v] w fun e w' => e = .returned (.tuple #[]) ∧ w = w' := by
  have N := Lib.hid (nNone H)
  clear H
  go_enter Tryz.func9, Tryz.ntmps9
  go_wp2_with (go_at_call 63; refine N.out.mono ?_; rintro e w1 ⟨rfl, rfl⟩)
  first
    | go_end0
    | refine bodyPost_ret (results_none rfl _ _ _) rfl ?_
  exact ⟨rfl, rfl⟩

set_option maxHeartbeats 400000 in
theorem nPush (H : NB w v) (m : Int) : Calls Tryz.prog 10 #[v, .int .i64 m] w fun e w' => e = .returned (.tuple #[]) ∧ w = w' := by
  have N := Lib.hid (nNone H)
  clear H
  go_enter Tryz.func10, Tryz.ntmps10
  go_wp2_with (go_at_call 63; refine N.out.mono ?_; rintro e w1 ⟨rfl, rfl⟩)
  first
    | go_end0
    | refine bodyPost_ret (results_none rfl _ _ _) rfl ?_
  exact ⟨rfl, rfl⟩

set_option maxHeartbeats 400000 in
theorem nPop (H : NB w v)  : Calls Tryz.prog 11 #[v] w fun e w' => e = .returned (.tuple #[]) ∧ w = w' := by
  have N := Lib.hid (nNone H)
  clear H
  go_enter Tryz.func11, Tryz.ntmps11
  go_wp2_with (go_at_call 63; refine N.out.mono ?_; rintro e w1 ⟨rfl, rfl⟩)
  first
    | go_end0
    | refine bodyPost_ret (results_none rfl _ _ _) rfl ?_
  exact ⟨rfl, rfl⟩

set_option maxHeartbeats 400000 in
theorem nSetHead (H : NB w v) (m : Int) : Calls Tryz.prog 12 #[v, .int .i64 m] w fun e w' => e = .returned (.tuple #[]) ∧ w = w' := by
  have N := Lib.hid (nNone H)
  clear H
  go_enter Tryz.func12, Tryz.ntmps12
  go_wp2_with (go_at_call 63; refine N.out.mono ?_; rintro e w1 ⟨rfl, rfl⟩)
  first
    | go_end0
    | refine bodyPost_ret (results_none rfl _ _ _) rfl ?_
  exact ⟨rfl, rfl⟩

set_option maxHeartbeats 400000 in
theorem nSetForm (H : NB w v) (m : Int) : Calls Tryz.prog 13 #[v, .int .i64 m] w fun e w' => e = .returned (.tuple #[]) ∧ w = w' := by
  have N := Lib.hid (nNone H)
  clear H
  go_enter Tryz.func13, Tryz.ntmps13
  go_wp2_with (go_at_call 63; refine N.out.mono ?_; rintro e w1 ⟨rfl, rfl⟩)
  first
    | go_end0
    | refine bodyPost_ret (results_none rfl _ _ _) rfl ?_
  exact ⟨rfl, rfl⟩

set_option maxHeartbeats 400000 in
theorem nSetQuirks (H : NB w v) (m : Bool) : Calls Tryz.prog 14 #[v, .bool m] w fun e w' => e = .returned (.tuple #[]) ∧ w = w' := by
  have N := Lib.hid (nNone H)
  clear H
  go_enter Tryz.func14, Tryz.ntmps14
  go_wp2_with (go_at_call 63; refine N.out.mono ?_; rintro e w1 ⟨rfl, rfl⟩)
  first
    | go_end0
    | refine bodyPost_ret (results_none rfl _ _ _) rfl ?_
  exact ⟨rfl, rfl⟩

set_option maxHeartbeats 400000 in
theorem nFoster (H : NB w v) (m : Bool) : Calls Tryz.prog 15 #[v, .bool m] w fun e w' => e = .returned (.tuple #[]) ∧ w = w' := by
  have N := Lib.hid (nNone H)
  clear H
  go_enter Tryz.func15, Tryz.ntmps15
  go_wp2_with (go_at_call 63; refine N.out.mono ?_; rintro e w1 ⟨rfl, rfl⟩)
  first
    | go_end0
    | refine bodyPost_ret (results_none rfl _ _ _) rfl ?_
  exact ⟨rfl, rfl⟩

set_option maxHeartbeats 400000 in
theorem nSetPending (H : NB w v) (m : Str) : Calls Tryz.prog 16 #[v, .string m] w fun e w' => e = .returned (.tuple #[]) ∧ w = w' := by
  have N := Lib.hid (nNone H)
  clear H
  go_enter Tryz.func16, Tryz.ntmps16
  go_wp2_with (go_at_call 63; refine N.out.mono ?_; rintro e w1 ⟨rfl, rfl⟩)
  first
    | go_end0
    | refine bodyPost_ret (results_none rfl _ _ _) rfl ?_
  exact ⟨rfl, rfl⟩

set_option maxHeartbeats 400000 in
theorem nSkip (H : NB w v)  : Calls Tryz.prog 17 #[v] w fun e w' => e = .returned (.tuple #[]) ∧ w = w' := by
  have N := Lib.hid (nNone H)
  clear H
  go_enter Tryz.func17, Tryz.ntmps17
  go_wp2_with (go_at_call 63; refine N.out.mono ?_; rintro e w1 ⟨rfl, rfl⟩)
  first
    | go_end0
    | refine bodyPost_ret (results_none rfl _ _ _) rfl ?_
  exact ⟨rfl, rfl⟩

set_option maxHeartbeats 400000 in
theorem nFail (H : NB w v) (m : Int) : Calls Tryz.prog 18 #[v, .int .i64 m] w fun e w' => e = .returned (.tuple #[]) ∧ w = w' := by
  have N := Lib.hid (nNone H)
  clear H
  go_enter Tryz.func18, Tryz.ntmps18
  go_wp2_with (go_at_call 63; refine N.out.mono ?_; rintro e w1 ⟨rfl, rfl⟩)
  first
    | go_end0
    | refine bodyPost_ret (results_none rfl _ _ _) rfl ?_
  exact ⟨rfl, rfl⟩

set_option maxHeartbeats 400000 in
theorem nPut (H : NB w v) (m k : Int) : Calls Tryz.prog 19 #[v, .int .i64 m, .int .i64 k] w fun e w' => e = .returned (.tuple #[]) ∧ w = w' := by
  have N := Lib.hid (nNone H)
  clear H
  go_enter Tryz.func19, Tryz.ntmps19
  go_wp2_with (go_at_call 63; refine N.out.mono ?_; rintro e w1 ⟨rfl, rfl⟩)
  first
    | go_end0
    | refine bodyPost_ret (results_none rfl _ _ _) rfl ?_
  exact ⟨rfl, rfl⟩

set_option maxHeartbeats 400000 in
theorem nChars (H : NB w v) (m : Str) : Calls Tryz.prog 20 #[v, .string m] w fun e w' => e = .returned (.tuple #[]) ∧ w = w' := by
  have N := Lib.hid (nNone H)
  clear H
  go_enter Tryz.func20, Tryz.ntmps20
  go_wp2_with (go_at_call 63; refine N.out.mono ?_; rintro e w1 ⟨rfl, rfl⟩)
  first
    | go_end0
    | refine bodyPost_ret (results_none rfl _ _ _) rfl ?_
  exact ⟨rfl, rfl⟩

set_option maxHeartbeats 400000 in
theorem nComment (H : NB w v) (t : Tok) (m : Int) : Calls Tryz.prog 21 #[v, t.val, .int .i64 m] w fun e w' => e = .returned (.tuple #[]) ∧ Below w.heap.size w w' := by
  have N := Lib.hid (nNone (H.loc (below_alloc (Below.refl _ _) (.cells t.cells.toArray 24))))
  unfold Tok.cells at N
  unfold Tok.val Tok.cells
  clear H
  go_enter Tryz.func21, Tryz.ntmps21
  go_wp2_with (go_at_call 63; refine N.out.mono ?_; rintro e w1 ⟨rfl, rfl⟩)
  first
    | go_end0
    | refine bodyPost_ret (results_none rfl _ _ _) rfl ?_
  exact ⟨rfl, below_alloc (Below.refl _ _) _⟩

set_option maxHeartbeats 400000 in
theorem nRaw (H : NB w v) (t : Tok) (m : Int) : Calls Tryz.prog 22 #[v, t.val, .int .i64 m] w fun e w' => e = .returned (.tuple #[]) ∧ Below w.heap.size w w' := by
  have N := Lib.hid (nNone (H.loc (below_alloc (Below.refl _ _) (.cells t.cells.toArray 24))))
  unfold Tok.cells at N
  unfold Tok.val Tok.cells
  clear H
  go_enter Tryz.func22, Tryz.ntmps22
  go_wp2_with (go_at_call 63; refine N.out.mono ?_; rintro e w1 ⟨rfl, rfl⟩)
  first
    | go_end0
    | refine bodyPost_ret (results_none rfl _ _ _) rfl ?_
  exact ⟨rfl, below_alloc (Below.refl _ _) _⟩

set_option maxHeartbeats 400000 in
theorem nPlain (H : NB w v)  : Calls Tryz.prog 23 #[v] w fun e w' => e = .returned (.tuple #[]) ∧ w = w' := by
  have N := Lib.hid (nNone H)
  clear H
  go_enter Tryz.func23, Tryz.ntmps23
  go_wp2_with (go_at_call 63; refine N.out.mono ?_; rintro e w1 ⟨rfl, rfl⟩)
  first
    | go_end0
    | refine bodyPost_ret (results_none rfl _ _ _) rfl ?_
  exact ⟨rfl, rfl⟩

set_option maxHeartbeats 400000 in
theorem nRebuild (H : NB w v)  : Calls Tryz.prog 24 #[v] w fun e w' => e = .returned (.tuple #[]) ∧ w = w' := by
  have N := Lib.hid (nNone H)
  clear H
  go_enter Tryz.func24, Tryz.ntmps24
  go_wp2_with (go_at_call 63; refine N.out.mono ?_; rintro e w1 ⟨rfl, rfl⟩)
  first
    | go_end0
    | refine bodyPost_ret (results_none rfl _ _ _) rfl ?_
  exact ⟨rfl, rfl⟩

set_option maxHeartbeats 400000 in
theorem nCloseP (H : NB w v)  : Calls Tryz.prog 25 #[v] w fun e w' => e = .returned (.tuple #[]) ∧ w = w' := by
  have N := Lib.hid (nNone H)
  clear H
  go_enter Tryz.func25, Tryz.ntmps25
  go_wp2_with (go_at_call 63; refine N.out.mono ?_; rintro e w1 ⟨rfl, rfl⟩)
  first
    | go_end0
    | refine bodyPost_ret (results_none rfl _ _ _) rfl ?_
  exact ⟨rfl, rfl⟩

set_option maxHeartbeats 400000 in
theorem nReset (H : NB w v)  : Calls Tryz.prog 26 #[v] w fun e w' => e = .returned (.tuple #[]) ∧ w = w' := by
  have N := Lib.hid (nNone H)
  clear H
  go_enter Tryz.func26, Tryz.ntmps26
  go_wp2_with (go_at_call 63; refine N.out.mono ?_; rintro e w1 ⟨rfl, rfl⟩)
  first
    | go_end0
    | refine bodyPost_ret (results_none rfl _ _ _) rfl ?_
  exact ⟨rfl, rfl⟩

set_option maxHeartbeats 400000 in
theorem nHTML (H : NB w v) (t : Tok) : Calls Tryz.prog 27 #[v, t.val] w fun e w' => e = .returned (.tuple #[]) ∧ Below w.heap.size w w' := by
  have N := Lib.hid (nNone (H.loc (below_alloc (Below.refl _ _) (.cells t.cells.toArray 24))))
  unfold Tok.cells at N
  unfold Tok.val Tok.cells
  clear H
  go_enter Tryz.func27, Tryz.ntmps27
  go_wp2_with (go_at_call 63; refine N.out.mono ?_; rintro e w1 ⟨rfl, rfl⟩)
  first
    | go_end0
    | refine bodyPost_ret (results_none rfl _ _ _) rfl ?_
  exact ⟨rfl, below_alloc (Below.refl _ _) _⟩

set_option maxHeartbeats 400000 in
theorem nPlace (H : NB w v) (m : Int) : Calls Tryz.prog 28 #[v, .int .i64 m] w fun e w' => e = .returned (.tuple #[.int .i64 (-1), .int .i64 (-1)]) ∧ w = w' := by
  have N := Lib.hid (nNone H)
  clear H
  go_enter Tryz.func28, Tryz.ntmps28
  go_wp2_with (go_at_call 63; refine N.out.mono ?_; rintro e w1 ⟨rfl, rfl⟩)
  refine bodyPost_ret (results_tmp2 rfl _ _ _) rfl ?_
  exact ⟨rfl, rfl⟩

set_option maxHeartbeats 400000 in
theorem nAsk (H : NB w v)  : Calls Tryz.prog 29 #[v] w fun e w' => e = .returned (.tuple #[.int .i64 0, .string ⟨#[]⟩, .bool false]) ∧ w = w' := by
  have N := Lib.hid (nNone H)
  clear H
  go_enter Tryz.func29, Tryz.ntmps29
  go_wp2_with (go_at_call 63; refine N.out.mono ?_; rintro e w1 ⟨rfl, rfl⟩)
  refine bodyPost_ret (v := .tuple #[.int .i64 0, .string ⟨#[]⟩, .bool false]) (by simp [results, Tryz.results29, go_sem]) rfl ?_
  exact ⟨rfl, rfl⟩

set_option maxHeartbeats 400000 in
theorem nArena (H : NB w v)  : Calls Tryz.prog 30 #[v] w fun e w' => e = .returned (.pointer none) ∧ w = w' := by
  have N := Lib.hid (nNone H)
  clear H
  go_enter Tryz.func30, Tryz.ntmps30
  go_wp2_with (go_at_call 63; refine N.out.mono ?_; rintro e w1 ⟨rfl, rfl⟩)
  go_ret
  exact ⟨rfl, rfl⟩

set_option maxHeartbeats 400000 in
theorem nStack (H : NB w v)  : Calls Tryz.prog 31 #[v] w fun e w' => e = .returned (.pointer none) ∧ w = w' := by
  have N := Lib.hid (nNone H)
  clear H
  go_enter Tryz.func31, Tryz.ntmps31
  go_wp2_with (go_at_call 63; refine N.out.mono ?_; rintro e w1 ⟨rfl, rfl⟩)
  go_ret
  exact ⟨rfl, rfl⟩

set_option maxHeartbeats 400000 in
theorem nFormats (H : NB w v)  : Calls Tryz.prog 32 #[v] w fun e w' => e = .returned (.pointer none) ∧ w = w' := by
  have N := Lib.hid (nNone H)
  clear H
  go_enter Tryz.func32, Tryz.ntmps32
  go_wp2_with (go_at_call 63; refine N.out.mono ?_; rintro e w1 ⟨rfl, rfl⟩)
  go_ret
  exact ⟨rfl, rfl⟩

set_option maxHeartbeats 400000 in
theorem nMode (H : NB w v)  : Calls Tryz.prog 33 #[v] w fun e w' => e = .returned (.int .i64 0) ∧ w = w' := by
  have N := Lib.hid (nNone H)
  clear H
  go_enter Tryz.func33, Tryz.ntmps33
  go_wp2_with (go_at_call 63; refine N.out.mono ?_; rintro e w1 ⟨rfl, rfl⟩)
  go_ret
  exact ⟨rfl, rfl⟩

set_option maxHeartbeats 400000 in
theorem nBack (H : NB w v)  : Calls Tryz.prog 34 #[v] w fun e w' => e = .returned (.int .i64 0) ∧ w = w' := by
  have N := Lib.hid (nNone H)
  clear H
  go_enter Tryz.func34, Tryz.ntmps34
  go_wp2_with (go_at_call 63; refine N.out.mono ?_; rintro e w1 ⟨rfl, rfl⟩)
  go_ret
  exact ⟨rfl, rfl⟩

set_option maxHeartbeats 400000 in
theorem nModes (H : NB w v)  : Calls Tryz.prog 35 #[v] w fun e w' => e = .returned (.slice none 0 0) ∧ w = w' := by
  have N := Lib.hid (nNone H)
  clear H
  go_enter Tryz.func35, Tryz.ntmps35
  go_wp2_with (go_at_call 63; refine N.out.mono ?_; rintro e w1 ⟨rfl, rfl⟩)
  go_ret
  exact ⟨rfl, rfl⟩

set_option maxHeartbeats 400000 in
theorem nHead (H : NB w v)  : Calls Tryz.prog 36 #[v] w fun e w' => e = .returned (.int .i64 (-1)) ∧ w = w' := by
  have N := Lib.hid (nNone H)
  clear H
  go_enter Tryz.func36, Tryz.ntmps36
  go_wp2_with (go_at_call 63; refine N.out.mono ?_; rintro e w1 ⟨rfl, rfl⟩)
  go_ret
  exact ⟨rfl, rfl⟩

set_option maxHeartbeats 400000 in
theorem nForm (H : NB w v)  : Calls Tryz.prog 37 #[v] w fun e w' => e = .returned (.int .i64 (-1)) ∧ w = w' := by
  have N := Lib.hid (nNone H)
  clear H
  go_enter Tryz.func37, Tryz.ntmps37
  go_wp2_with (go_at_call 63; refine N.out.mono ?_; rintro e w1 ⟨rfl, rfl⟩)
  go_ret
  exact ⟨rfl, rfl⟩

set_option maxHeartbeats 400000 in
theorem nQuirks (H : NB w v)  : Calls Tryz.prog 38 #[v] w fun e w' => e = .returned (.bool false) ∧ w = w' := by
  have N := Lib.hid (nNone H)
  clear H
  go_enter Tryz.func38, Tryz.ntmps38
  go_wp2_with (go_at_call 63; refine N.out.mono ?_; rintro e w1 ⟨rfl, rfl⟩)
  go_ret
  exact ⟨rfl, rfl⟩

set_option maxHeartbeats 400000 in
theorem nPending (H : NB w v)  : Calls Tryz.prog 39 #[v] w fun e w' => e = .returned (.string ⟨#[]⟩) ∧ w = w' := by
  have N := Lib.hid (nNone H)
  clear H
  go_enter Tryz.func39, Tryz.ntmps39
  go_wp2_with (go_at_call 63; refine N.out.mono ?_; rintro e w1 ⟨rfl, rfl⟩)
  go_ret
  exact ⟨rfl, rfl⟩

set_option maxHeartbeats 400000 in
theorem nSkips (H : NB w v)  : Calls Tryz.prog 40 #[v] w fun e w' => e = .returned (.bool false) ∧ w = w' := by
  have N := Lib.hid (nNone H)
  clear H
  go_enter Tryz.func40, Tryz.ntmps40
  go_wp2_with (go_at_call 63; refine N.out.mono ?_; rintro e w1 ⟨rfl, rfl⟩)
  go_ret
  exact ⟨rfl, rfl⟩

set_option maxHeartbeats 400000 in
theorem nErr (H : NB w v)  : Calls Tryz.prog 41 #[v] w fun e w' => e = .returned (.int .i64 1) ∧ w = w' := by
  have N := Lib.hid (nNone H)
  clear H
  go_enter Tryz.func41, Tryz.ntmps41
  go_wp2_with (go_at_call 63; refine N.out.mono ?_; rintro e w1 ⟨rfl, rfl⟩)
  go_ret
  exact ⟨rfl, rfl⟩

set_option maxHeartbeats 400000 in
theorem nOpen (H : NB w v) (m : Str) : Calls Tryz.prog 44 #[v, .string m] w fun e w' => e = .returned (.bool false) ∧ w = w' := by
  have N := Lib.hid (nNone H)
  clear H
  go_enter Tryz.func44, Tryz.ntmps44
  go_wp2_with (go_at_call 63; refine N.out.mono ?_; rintro e w1 ⟨rfl, rfl⟩)
  go_ret
  exact ⟨rfl, rfl⟩

end
end Go.Proofs.YtjmlkmlbhfkhbaaGreatDoor
namespace Go.Proofs.YtjmlkmlbhfkhbaaGreatDoor
open Go Go.RowKit

section
variable {w : World} {v : Value}
set_option maxHeartbeats 400000 in
theorem nInsert (H : NB w v) (t : Tok) (m : Int) : Calls Tryz.prog 45 #[v, t.val, .int .i64 m] w fun e w' => e = .returned (.int .i64 (-1)) ∧ Below w.heap.size w w' := by
  have N := Lib.hid (nNone (H.loc (below_alloc (Below.refl _ _) (.cells t.cells.toArray 24))))
  unfold Tok.cells at N
  unfold Tok.val Tok.cells
  clear H
  go_enter Tryz.func45, Tryz.ntmps45
  go_wp2_with (go_at_call 63; refine N.out.mono ?_; rintro e w1 ⟨rfl, rfl⟩)
  go_ret
  exact ⟨rfl, below_alloc (Below.refl _ _) _⟩

set_option maxHeartbeats 400000 in
theorem nOnly (H : NB w v) (t : Tok) : Calls Tryz.prog 46 #[v, t.val] w fun e w' => e = .returned (.int .i64 (-1)) ∧ Below w.heap.size w w' := by
  have N := Lib.hid (nInsert (H.loc (below_alloc (Below.refl _ _) (.cells t.cells.toArray 24))) t 0)
  unfold Tok.val Tok.cells at N
  unfold Tok.val Tok.cells
  clear H
  go_enter Tryz.func46, Tryz.ntmps46
  go_wp2_with (go_at_call 45; refine N.out.mono ?_; rintro e w1 ⟨rfl, hb1⟩)
  go_ret
  exact ⟨rfl, below_step (below_alloc (Below.refl _ _) _) hb1⟩

set_option maxHeartbeats 400000 in
theorem nImply (H : NB w v) (name : Str) : Calls Tryz.prog 47 #[v, .string name] w fun e w' => e = .returned (.int .i64 (-1)) ∧ Below w.heap.size w w' := by
  have N := Lib.hid (nInsert H (impTok name) 0)
  clear H
  go_enter Tryz.func47, Tryz.ntmps47
  go_wp2_with fail
  refine N.out.mono ?_
  rintro e w1 ⟨rfl, hb1⟩
  go_wp2_with fail
  go_ret
  exact ⟨rfl, hb1⟩

def ndZ : Nd := { kind := 0, name := ⟨#[]⟩, text := ⟨#[]⟩, space := 0, attrs := [], dup := false, parent := 0, content := 0, kids := [], frm := 0, to_ := 0 }

set_option maxHeartbeats 1000000 in
theorem nCurrent (H : NB w v) : Calls Tryz.prog 42 #[v] w fun e w' => e = .returned (ndVal ndZ none 0 none 0) ∧ Below w.heap.size w w' := by
  have N := Lib.hid (nNone (H.loc (below_alloc (Below.refl _ _) (.cells zeroNode.toArray 58))))
  unfold zeroNode at N
  clear H
  go_enter Tryz.func42, Tryz.ntmps42
  go_wp2_with (go_at_call 63; refine N.out.mono ?_; rintro e w1 ⟨rfl, rfl⟩)
  refine bodyPost_ret (v := ndVal ndZ none 0 none 0) ?_ rfl ?_
  · have HBx := HB.new w 58 zeroNode
    have d := HBx.cell
    unfold zeroNode at d
    have d0 := d 0
    have d1 := d 1
    have d2 := d 2
    have d3 := d 3
    have d4 := d 4
    have d5 := d 5
    have d6 := d 6
    have d7 := d 7
    have d8 := d 8
    have d9 := d 9
    have d10 := d 10
    simp only [List.getElem?_cons_zero, List.getElem?_cons_succ] at d0 d1 d2 d3 d4 d5 d6 d7 d8 d9 d10
    simp [results, Tryz.results42, go_sem, ndVal, ndZ, d0, d1, d2, d3, d4, d5, d6, d7, d8, d9, d10]
  · exact ⟨rfl, below_alloc (Below.refl _ _) _⟩

set_option maxHeartbeats 1000000 in
theorem nIs (H : NB w v) {g : Nat} {s : Str} (hs : Strs w g [s]) : Calls Tryz.prog 43 #[v, .slice (some ⟨g, 0, none⟩) 1 1] w fun e w' => e = .returned (.bool false) ∧ Below w.heap.size w w' := by
  have N := Lib.hid (nCurrent H)
  have HS := Lib.hid hs
  clear H hs
  go_enter Tryz.func43, Tryz.ntmps43
  go_wp2_with fail
  refine N.out.mono ?_
  rintro e w1 ⟨rfl, hb1⟩
  have B := Lib.hid (bHtml w1 ndZ none 0 none 0 g 1 [s] (by simp) (HS.out.below hb1))
  go_wp2_with fail
  refine B.out.mono ?_
  rintro e w2 ⟨rfl, hb2⟩
  go_wp2_with fail
  go_ret
  exact ⟨rfl, below_step hb1 hb2⟩
end
end Go.Proofs.YtjmlkmlbhfkhbaaGreatDoor
