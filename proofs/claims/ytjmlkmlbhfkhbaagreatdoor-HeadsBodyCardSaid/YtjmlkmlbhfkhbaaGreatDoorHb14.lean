/-
  The law's three trees that grow: grows (7).
  grows, walked.
-/
import Derived.Test.YtjmlkmlbhfkhbaaGreatDoorHb13
set_option linter.unusedSimpArgs false
set_option linter.unusedVariables false
namespace Go.Proofs.YtjmlkmlbhfkhbaaGreatDoor
open Go Go.RowKit
abbrev nBody : Str := ⟨#[98, 111, 100, 121]⟩
abbrev nB : Str := ⟨#[98]⟩
abbrev nTd : Str := ⟨#[116, 100]⟩
def sA1 : St := insM st0 (impTok nHtml) 0
def sA2 : St := insM sA1 (impTok nBody) 0
def sA3 : St := insM sA2 (impTok nTable) 0
def sA4 : St := { sA3 with foster := true }
def sB3 : St := insM sA2 (impTok nB) 0
def sB4 : St := { sB3 with fmt := [3] }
def sB5 : St := { sB4 with stk := sB4.stk.dropLast }
def sC2 : St := insM sA1 (impTok nTd) 0
def sC3 : St := resetM sC2
def sC4 : St := insM sC3 (impTok nTr) 0
def sC5 : St := resetM sC4

theorem wA1 : Wf 1004 sA1 := Wf.st0.ins (impTok nHtml) 0 (by simp [impTok])
theorem wA2 : Wf 2007 sA2 := wA1.ins (impTok nBody) 0 (by simp [impTok])
theorem wA3 : Wf 3010 sA3 := wA2.ins (impTok nTable) 0 (by simp [impTok])
theorem wB3 : Wf 3010 sB3 := wA2.ins (impTok nB) 0 (by simp [impTok])
theorem wC2 : Wf 2007 sC2 := wA1.ins (impTok nTd) 0 (by simp [impTok])
theorem Wf.mode {N : Nat} {st : St} (h : Wf N st) (m : Int) : Wf N { st with mode := m } := ⟨h.sz, h.op, h.up, h.doc, h.cont, h.kid, h.nf⟩
theorem Wf.fmt {N : Nat} {st : St} (h : Wf N st) (m : List Int) : Wf N { st with fmt := m } := ⟨h.sz, h.op, h.up, h.doc, h.cont, h.kid, h.nf⟩
theorem wC3 : Wf 2007 sC3 := wC2.mode _
theorem wC4 : Wf 3010 sC4 := wC3.ins (impTok nTr) 0 (by simp [impTok])
theorem wB5 : Wf 3010 sB5 := (wB3.fmt [3]).sub (l := sB4.stk.dropLast) fun o ho => List.dropLast_subset _ ho

theorem bImply' {w : World} {c : Col} {h : Hd} {st st' : St} (H : BRep w c h st) {N : Nat} (wf : Wf N st) (hN : N ≤ 10000000) (name : Str) {k : Int} (hl : st.stk.length < 512) (hk : (st.ns.length : Int) = k) (hst : insM st (impTok name) 0 = st') :
    Calls Tryz.prog 47 #[.pointer (some ⟨h.b, 0, none⟩), .string name] w (OkB h st' (.int .i64 k) w c) := by
  subst hk; subst hst
  exact bImply H wf hN hl name

theorem some_of_map {α β : Type} {o : Option α} {f : α → β} {b : β} (h : o.map f = some b) : ∃ a, o = some a ∧ f a = b := by
  cases o with
  | none => simp at h
  | some a => exact ⟨a, rfl, by simpa using h⟩

section
variable {w : World} {c : Col} {h : Hd}

/-- The first tree's place. -/
theorem gPlace (H : BRep w c h sA4) : Calls Tryz.prog 28 #[.pointer (some ⟨h.b, 0, none⟩), .int .i64 3] w fun e w' => e = .returned (.tuple #[.int .i64 2, .int .i64 3]) ∧ Below w.heap.size w w' := by
  obtain ⟨n, hn, e1⟩ := some_of_map (show (sA4.ns[3]?).map (fun n => (n.parent, htmlN n [nTable, nTbody, nTfoot, nThead, nTr])) = some (2, true) by decide +kernel)
  obtain ⟨p, hp, -⟩ := some_of_map (show (sA4.ns[2]?).map (fun n => n.parent) = some 1 by decide +kernel)
  exact bPlaceF H (N := 3010) wA3.sz (by omega) (by decide +kernel) wA3.op rfl (k := 2) (by decide +kernel) (by decide +kernel) (by omega) (t := 3) (by decide +kernel) hn (p := 2) (by simpa using congrArg Prod.fst e1) hp (g := 3) hn (by simpa using congrArg Prod.snd e1)

theorem gPush (H : BRep w c h sB3) : Calls Tryz.prog 60 #[.pointer (some ⟨h.l, 0, none⟩), .int .i64 3] w (OkB h sB4 (.int .i64 0) w c) := by
  obtain ⟨n, hn, e1⟩ := some_of_map (show (sB3.ns[3]?).map (fun n => n.kind) = some 3 by decide +kernel)
  exact fPush0 H wB3.sz (by omega) rfl hn e1

theorem gPop (H : BRep w c h sB4) : Calls Tryz.prog 61 #[.pointer (some ⟨h.s, 0, none⟩)] w (OkB h sB5 (.int .i64 3) w c) := by
  have := sPop H (by decide +kernel)
  rw [show topOf sB4.stk = 3 by decide +kernel] at this
  exact this

theorem gRebuild (H : BRep w c h sB5) : Calls Tryz.prog 24 #[.pointer (some ⟨h.b, 0, none⟩)] w fun e w' => e = .returned (.tuple #[]) ∧ ∃ c' st, BRep w' c' h st ∧ st.fmt = [4] ∧ Mv (Pr h) w c w' c' := by
  obtain ⟨n, hn, e1⟩ := some_of_map (show (sB5.ns[3]?).map (fun n => (n.kind, n.attrs.length)) = some (3, 0) by decide +kernel)
  refine (bRebuild1 H wB5 (by omega) (i := 3) (n := n) rfl (by decide +kernel) ?_ hn (by simpa using congrArg Prod.fst e1) (by have := congrArg Prod.snd e1; simp at this; rw [this]; simp)).mono ?_
  · intro k o ho
    have hk := (List.getElem?_eq_some_iff.1 ho).1
    have h2 : sB5.stk.map (fun o => o.node) = [1, 2] := by decide +kernel
    have : (sB5.stk.map (fun o => o.node))[k]? = some o.node := by rw [List.getElem?_map, ho]; rfl
    rw [h2] at this
    rcases k with _ | _ | k
    · simp at this; rw [← this]; rfl
    · simp at this; rw [← this]; rfl
    · simp at this
  · rintro e w' ⟨rfl, c', H', hm'⟩
    exact ⟨rfl, c', _, H', (by show [(sB5.ns.length : Int)] = [4]; decide +kernel), hm'⟩

theorem names_ok {st : St} (h : (st.ns.all fun n => decide (n.name.size ≤ 1000)) = true) : ∀ (i : Nat) (n : Nd), st.ns[i]? = some n → n.name.size ≤ maxLen := by
  intro i n hn
  have := List.all_eq_true.1 h n (List.mem_of_getElem? hn)
  have h1 : n.name.size ≤ 1000 := by simpa using this
  unfold maxLen
  omega

theorem gReset1 (H : BRep w c h sC2) (hby : ByOk w c) : Calls Tryz.prog 26 #[.pointer (some ⟨h.b, 0, none⟩)] w (OkB h sC3 (.tuple #[]) w c) :=
  bReset H hby (N := 3010) (wC2.more (by omega)).sz (by omega) (by decide +kernel) (by decide +kernel) wC2.op (names_ok (by decide +kernel))
theorem gReset2 (H : BRep w c h sC4) (hby : ByOk w c) : Calls Tryz.prog 26 #[.pointer (some ⟨h.b, 0, none⟩)] w (OkB h sC5 (.tuple #[]) w c) :=
  bReset H hby (N := 3010) wC4.sz (by omega) (by decide +kernel) (by decide +kernel) wC4.op (names_ok (by decide +kernel))
theorem m3 : sC3.mode = 14 := by decide +kernel
theorem m5 : sC5.mode = 13 := by decide +kernel
end

def Own : Key → Prop := fun k => k.1 ≠ 0
theorem Mv.own {h : Hd} {w w' : World} {c c' : Col} (hs : h.sd ≠ 0) (hm : Mv (Pr h) w c w' c') : Mv Own w c w' c' := hm.mono (Pr.ne hs)
end Go.Proofs.YtjmlkmlbhfkhbaaGreatDoor
namespace Go.Proofs.YtjmlkmlbhfkhbaaGreatDoor
open Go Go.RowKit

/-- The state between the trees. -/
def Mid (w : World) (c : Col) (wx : World) : Prop := ∃ cx, Mv Own w c wx cx
theorem ByOk.own {w w' : World} {c c' : Col} (H : ByOk w c) (hm : Mv Own w c w' c') : ByOk w' c' := H.mv hm fun _ h => h

set_option maxRecDepth 100000 in
set_option maxHeartbeats 8000000 in
theorem grows7 {w : World} {c : Col} (hg : Good w c) (hby : ByOk w c) :
    Calls Tryz.prog 7 #[] w fun e w' => e = .returned (.bool true) ∧ ∃ c', Mv Own w c w' c' := by
  have NEW : Hid (∀ (W : World) (C : Col), Mv Own w c W C → Calls Tryz.prog 50 #[] W fun e w' => ∃ c' h, h.sd = 1 ∧ e = .returned (.pointer (some ⟨h.b, 0, none⟩)) ∧ BRep w' c' h st0 ∧ Mv Own w c w' c') := Lib.hid fun W C hm => by
    refine (bNew (hm.gd hg) (sd := 1) (by decide)).mono ?_
    rintro e w' ⟨c', h, e1, e2, H, hM⟩
    exact ⟨c', h, e1, e2, H, hm.trans (hM.mono fun _ h => h.elim)⟩
  have BY := Lib.hid hby
  clear hg hby
  go_enter Tryz.func7, Tryz.ntmps7
  go_wp2_with fail
  refine (NEW.out w c (Mv.refl _ _ _)).mono ?_
  rintro e w1 ⟨c1, h1, hs1, rfl, H1, m1⟩
  go_wp2_with fail
  refine (bImply' H1 (st' := sA1) Wf.st0 (by omega) nHtml (k := 1) (by decide +kernel) (by decide +kernel) rfl).mono ?_
  rintro e w2 ⟨rfl, c2, H2, n2⟩
  have m2 := m1.trans (n2.own (by rw [hs1]; decide))
  go_wp2_with fail
  refine (bImply' H2 (st' := sA2) wA1 (by omega) nBody (k := 2) (by decide +kernel) (by decide +kernel) rfl).mono ?_
  rintro e w3 ⟨rfl, c3, H3, n3⟩
  have m3 := m2.trans (n3.own (by rw [hs1]; decide))
  go_wp2_with fail
  refine (bImply' H3 (st' := sA3) wA2 (by omega) nTable (k := 3) (by decide +kernel) (by decide +kernel) rfl).mono ?_
  rintro e w4 ⟨rfl, c4, H4, n4⟩
  have m4 := m3.trans (n4.own (by rw [hs1]; decide))
  go_wp2_with fail
  refine (bFoster H4 true).mono ?_
  rintro e w5 ⟨rfl, c5, H5, n5⟩
  have m5 := m4.trans (n5.own (by rw [hs1]; decide))
  go_wp2_with fail
  refine (gPlace H5).mono ?_
  rintro e w6 ⟨rfl, hb6⟩
  have m6 := m5.trans (Mv.of_below hb6)
  clear H1 H2 H3 H4 H5 n2 n3 n4 n5 m1 m2 m3 m4 m5 hb6 hs1
  go_wp2_with fail
  refine (NEW.out w6 c5 m6).mono ?_
  rintro e w1 ⟨c1, h1, hs1, rfl, H1, m1⟩
  go_wp2_with fail
  refine (bImply' H1 (st' := sA1) Wf.st0 (by omega) nHtml (k := 1) (by decide +kernel) (by decide +kernel) rfl).mono ?_
  rintro e w2 ⟨rfl, c2, H2, n2⟩
  have m2 := m1.trans (n2.own (by rw [hs1]; decide))
  go_wp2_with fail
  refine (bImply' H2 (st' := sA2) wA1 (by omega) nBody (k := 2) (by decide +kernel) (by decide +kernel) rfl).mono ?_
  rintro e w3 ⟨rfl, c3, H3, n3⟩
  have m3 := m2.trans (n3.own (by rw [hs1]; decide))
  go_wp2_with fail
  refine (bImply' H3 (st' := sB3) wA2 (by omega) nB (k := 3) (by decide +kernel) (by decide +kernel) rfl).mono ?_
  rintro e w4 ⟨rfl, c4, H4, n4⟩
  have m4 := m3.trans (n4.own (by rw [hs1]; decide))
  have F1 := Lib.hid (bFormats H4)
  go_wp2_with (go_at_call 32; refine F1.out.mono ?_; rintro e w5 ⟨rfl, rfl⟩)
  refine (gPush H4).mono ?_
  rintro e w5 ⟨rfl, c5, H5, n5⟩
  have m5 := m4.trans (n5.own (by rw [hs1]; decide))
  have S1 := Lib.hid (bStack H5)
  go_wp2_with (go_at_call 31; refine S1.out.mono ?_; rintro e w6 ⟨rfl, rfl⟩)
  refine (gPop H5).mono ?_
  rintro e w6 ⟨rfl, c6, H6, n6⟩
  have m6 := m5.trans (n6.own (by rw [hs1]; decide))
  go_wp2_with fail
  refine (gRebuild H6).mono ?_
  rintro e w7 ⟨rfl, c7, s7, H7, f7, n7⟩
  have m7 := m6.trans (n7.own (by rw [hs1]; decide))
  have F2 := Lib.hid (bFormats H7)
  obtain ⟨fA, fc, fv⟩ := H7.fv (by rw [f7]; decide)
  have AT := Lib.hid (fAt fv (k := 0) (n := 4) (by rw [f7]; rfl))
  clear fv F1 S1
  go_wp2_with (first
    | (go_at_call 32; refine F2.out.mono ?_; rintro e w8 ⟨rfl, rfl⟩)
    | (go_at_call 62; refine AT.out.mono ?_; rintro e w8 ⟨rfl, m, rfl⟩))
  have m8 := m7.trans (Mv.of_below (bdrewN w7 m))
  clear H1 H2 H3 H4 H5 H6 H7 n2 n3 n4 n5 n6 n7 m1 m2 m3 m4 m5 m6 m7 hs1 F2 AT f7
  go_wp2_with fail
  refine (NEW.out _ c7 m8).mono ?_
  rintro e w1 ⟨c1, h1, hs1, rfl, H1, m1⟩
  go_wp2_with fail
  refine (bImply' H1 (st' := sA1) Wf.st0 (by omega) nHtml (k := 1) (by decide +kernel) (by decide +kernel) rfl).mono ?_
  rintro e w2 ⟨rfl, c2, H2, n2⟩
  have m2 := m1.trans (n2.own (by rw [hs1]; decide))
  go_wp2_with fail
  refine (bImply' H2 (st' := sC2) wA1 (by omega) nTd (k := 2) (by decide +kernel) (by decide +kernel) rfl).mono ?_
  rintro e w3 ⟨rfl, c3, H3, n3⟩
  have m3 := m2.trans (n3.own (by rw [hs1]; decide))
  go_wp2_with fail
  refine (gReset1 H3 (BY.out.own m3)).mono ?_
  rintro e w4 ⟨rfl, c4, H4, n4⟩
  have m4 := m3.trans (n4.own (by rw [hs1]; decide))
  have MO := Lib.hid (bMode H4)
  rw [Go.Proofs.YtjmlkmlbhfkhbaaGreatDoor.m3] at MO
  go_wp2_with (go_at_call 33; refine MO.out.mono ?_; rintro e w8 ⟨rfl, rfl⟩)
  refine (bImply' H4 (st' := sC4) wC3 (by omega) nTr (k := 3) (by decide +kernel) (by decide +kernel) rfl).mono ?_
  rintro e w5 ⟨rfl, c5, H5, n5⟩
  have m5 := m4.trans (n5.own (by rw [hs1]; decide))
  clear MO
  go_wp2_with fail
  refine (gReset2 H5 (BY.out.own m5)).mono ?_
  rintro e w6 ⟨rfl, c6, H6, n6⟩
  have m6 := m5.trans (n6.own (by rw [hs1]; decide))
  have MO := Lib.hid (bMode H6)
  rw [Go.Proofs.YtjmlkmlbhfkhbaaGreatDoor.m5] at MO
  have ER := Lib.hid (bErr H6)
  go_wp2_with (first
    | (go_at_call 33; refine MO.out.mono ?_; rintro e w8 ⟨rfl, rfl⟩)
    | (go_at_call 41; refine ER.out.mono ?_; rintro e w8 ⟨rfl, hb8⟩))
  go_ret
  exact ⟨rfl, c6, m6.trans (Mv.of_below hb8)⟩
end Go.Proofs.YtjmlkmlbhfkhbaaGreatDoor
