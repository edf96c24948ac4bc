/-
  The builder's accessors and setters.
-/
import Derived.Test.YtjmlkmlbhfkhbaaGreatDoorAr1
namespace Go.Proofs.YtjmlkmlbhfkhbaaGreatDoor
open Go Go.RowKit

theorem BRepX.bc {w : World} {c : Col} {h : Hd} {x : Sh} {st : St} (H : BRepX w c h x st) :
    w.cell? ⟨h.b, 0, none⟩ = some (.pointer (some ⟨h.a, 0, none⟩)) ∧ w.cell? ⟨h.b, 1, none⟩ = some (.pointer (some ⟨h.s, 0, none⟩)) ∧ w.cell? ⟨h.b, 2, none⟩ = some (.pointer (some ⟨h.l, 0, none⟩)) ∧
    w.cell? ⟨h.b, 3, none⟩ = some (.int .i64 st.mode) ∧ w.cell? ⟨h.b, 4, none⟩ = some (.int .i64 st.back) ∧ w.cell? ⟨h.b, 5, none⟩ = some (.slice x.mA st.modes.length x.mcap) ∧
    w.cell? ⟨h.b, 6, none⟩ = some (.int .i64 st.head) ∧ w.cell? ⟨h.b, 7, none⟩ = some (.int .i64 st.form) ∧ w.cell? ⟨h.b, 8, none⟩ = some (.bool st.quirks) ∧
    w.cell? ⟨h.b, 9, none⟩ = some (.bool st.foster) ∧ w.cell? ⟨h.b, 10, none⟩ = some (.bool st.skip) ∧ w.cell? ⟨h.b, 11, none⟩ = some (.string st.pending) ∧
    w.cell? ⟨h.b, 12, none⟩ = some (.pointer x.kA) ∧ w.cell? ⟨h.b, 13, none⟩ = some .nilIface ∧ (∀ i, w.frozen? ⟨h.b, i, none⟩ = false) :=
  ⟨H.hb.cell 0, H.hb.cell 1, H.hb.cell 2, H.hb.cell 3, H.hb.cell 4, H.hb.cell 5, H.hb.cell 6, H.hb.cell 7, H.hb.cell 8, H.hb.cell 9, H.hb.cell 10, H.hb.cell 11, H.hb.cell 12, H.hb.cell 13, H.hb.frozen⟩

/-- A store into the builder's own block. -/
theorem BRepX.setB {w : World} {c : Col} {h : Hd} {x : Sh} {st : St} (H : BRepX w c h x st) (j : Nat) (v : Value) (st' : St) (x' : Sh)
    (hc : bCells h x' st' = (bCells h x st).set j v) (e1 : st'.ns = st.ns) (e2 : st'.stk = st.stk) (e3 : st'.fmt = st.fmt) (e4 : st'.modes = st.modes) (e5 : st'.ask = st.ask)
    (f : x' = { x with kA := x'.kA, mA := x'.mA, mcap := x'.mcap }) (f4 : x'.mA = x.mA ∧ x'.mcap = x.mcap) (f5 : x'.kA = x.kA) : BRepX (w.setCell ⟨h.b, j, none⟩ v) c h x' st' := by
  have hx : x' = x := by rw [f, f4.1, f4.2, f5]
  subst hx
  have hk : ∀ p i, p ≠ 1 → Kp (h.sd, p, i) w c (w.setCell ⟨h.b, j, none⟩ v) c := fun p i hp => kp_setCell (by rw [H.hb.1]; simp; omega) v
  have hg : Good (w.setCell ⟨h.b, j, none⟩ v) c := fun g hs => H.gd g (by simpa [World.setCell] using hs)
  refine ⟨hg, H.sd, ?_, H.ha.kp (hk _ _ (by decide)), ?_, by rw [e1]; exact H.ns, ?_, ?_, ?_, ?_, ?_, ?_⟩
  · rw [hc]; exact H.hb.set_ j v
  · exact ⟨H.nodes.row.kp (hk _ _ (by decide)), fun i y hy => ⟨(H.nodes.each i y hy).1.kp (hk _ _ (by decide)), (H.nodes.each i y hy).2.kp (hk _ _ (by decide))⟩⟩
  · rw [e2]; exact H.hs.kp (hk _ _ (by decide))
  · rw [e2]; exact H.stk.kp (hk _ _ (by decide))
  · rw [e3]; exact H.hl.kp (hk _ _ (by decide))
  · rw [e3]; exact H.fmt.kp (hk _ _ (by decide))
  · rw [e4]; exact H.modes.kp (hk _ _ (by decide))
  · have := H.ask
    rw [e5]
    cases hs : st.ask with
    | none => rw [hs] at this; exact this
    | some p =>
      rw [hs] at this
      obtain ⟨g, h1, h2⟩ := this
      exact ⟨g, h1, h2.kp (hk _ _ (by decide))⟩

theorem BRepX.mvB {w : World} {c : Col} {h : Hd} {x : Sh} {st : St} (H : BRepX w c h x st) (j : Nat) (v : Value) : Mv (Pr h) w c (w.setCell ⟨h.b, j, none⟩ v) c :=
  Mv.setCell (show (c h.b).1 = h.sd by rw [H.hb.1]) v

/-- A call that ends with a value, the builder being in a state. -/
def OkB (h : Hd) (st : St) (v : Value) (w : World) (c : Col) (e : Ending) (w' : World) : Prop := e = .returned v ∧ ∃ c', BRep w' c' h st ∧ Mv (Pr h) w c w' c'

section
variable {w : World} {c : Col} {h : Hd} {st : St}

set_option maxHeartbeats 400000 in
theorem bArena (H : BRep w c h st) : Calls Tryz.prog 30 #[.pointer (some ⟨h.b, 0, none⟩)] w fun e w' => e = .returned (.pointer (some ⟨h.a, 0, none⟩)) ∧ w = w' := by
  obtain ⟨x, H⟩ := H
  obtain ⟨b0, b1, b2, b3, b4, b5, b6, b7, b8, b9, b10, b11, b12, b13, bf⟩ := H.bc
  clear H
  go_enter Tryz.func30, Tryz.ntmps30
  go_wp2
  go_ret
  exact ⟨rfl, rfl⟩

set_option maxHeartbeats 400000 in
theorem bStack (H : BRep w c h st) : Calls Tryz.prog 31 #[.pointer (some ⟨h.b, 0, none⟩)] w fun e w' => e = .returned (.pointer (some ⟨h.s, 0, none⟩)) ∧ w = w' := by
  obtain ⟨x, H⟩ := H
  obtain ⟨b0, b1, b2, b3, b4, b5, b6, b7, b8, b9, b10, b11, b12, b13, bf⟩ := H.bc
  clear H
  go_enter Tryz.func31, Tryz.ntmps31
  go_wp2
  go_ret
  exact ⟨rfl, rfl⟩

set_option maxHeartbeats 400000 in
theorem bFormats (H : BRep w c h st) : Calls Tryz.prog 32 #[.pointer (some ⟨h.b, 0, none⟩)] w fun e w' => e = .returned (.pointer (some ⟨h.l, 0, none⟩)) ∧ w = w' := by
  obtain ⟨x, H⟩ := H
  obtain ⟨b0, b1, b2, b3, b4, b5, b6, b7, b8, b9, b10, b11, b12, b13, bf⟩ := H.bc
  clear H
  go_enter Tryz.func32, Tryz.ntmps32
  go_wp2
  go_ret
  exact ⟨rfl, rfl⟩

set_option maxHeartbeats 400000 in
theorem bMode (H : BRep w c h st) : Calls Tryz.prog 33 #[.pointer (some ⟨h.b, 0, none⟩)] w fun e w' => e = .returned (.int .i64 st.mode) ∧ w = w' := by
  obtain ⟨x, H⟩ := H
  obtain ⟨b0, b1, b2, b3, b4, b5, b6, b7, b8, b9, b10, b11, b12, b13, bf⟩ := H.bc
  clear H
  go_enter Tryz.func33, Tryz.ntmps33
  go_wp2
  go_ret
  exact ⟨rfl, rfl⟩

set_option maxHeartbeats 400000 in
theorem bBack (H : BRep w c h st) : Calls Tryz.prog 34 #[.pointer (some ⟨h.b, 0, none⟩)] w fun e w' => e = .returned (.int .i64 st.back) ∧ w = w' := by
  obtain ⟨x, H⟩ := H
  obtain ⟨b0, b1, b2, b3, b4, b5, b6, b7, b8, b9, b10, b11, b12, b13, bf⟩ := H.bc
  clear H
  go_enter Tryz.func34, Tryz.ntmps34
  go_wp2
  go_ret
  exact ⟨rfl, rfl⟩

set_option maxHeartbeats 400000 in
theorem bHead (H : BRep w c h st) : Calls Tryz.prog 36 #[.pointer (some ⟨h.b, 0, none⟩)] w fun e w' => e = .returned (.int .i64 st.head) ∧ w = w' := by
  obtain ⟨x, H⟩ := H
  obtain ⟨b0, b1, b2, b3, b4, b5, b6, b7, b8, b9, b10, b11, b12, b13, bf⟩ := H.bc
  clear H
  go_enter Tryz.func36, Tryz.ntmps36
  go_wp2
  go_ret
  exact ⟨rfl, rfl⟩

set_option maxHeartbeats 400000 in
theorem bForm (H : BRep w c h st) : Calls Tryz.prog 37 #[.pointer (some ⟨h.b, 0, none⟩)] w fun e w' => e = .returned (.int .i64 st.form) ∧ w = w' := by
  obtain ⟨x, H⟩ := H
  obtain ⟨b0, b1, b2, b3, b4, b5, b6, b7, b8, b9, b10, b11, b12, b13, bf⟩ := H.bc
  clear H
  go_enter Tryz.func37, Tryz.ntmps37
  go_wp2
  go_ret
  exact ⟨rfl, rfl⟩

set_option maxHeartbeats 400000 in
theorem bQuirks (H : BRep w c h st) : Calls Tryz.prog 38 #[.pointer (some ⟨h.b, 0, none⟩)] w fun e w' => e = .returned (.bool st.quirks) ∧ w = w' := by
  obtain ⟨x, H⟩ := H
  obtain ⟨b0, b1, b2, b3, b4, b5, b6, b7, b8, b9, b10, b11, b12, b13, bf⟩ := H.bc
  clear H
  go_enter Tryz.func38, Tryz.ntmps38
  go_wp2
  go_ret
  exact ⟨rfl, rfl⟩

set_option maxHeartbeats 400000 in
theorem bPending (H : BRep w c h st) : Calls Tryz.prog 39 #[.pointer (some ⟨h.b, 0, none⟩)] w fun e w' => e = .returned (.string st.pending) ∧ w = w' := by
  obtain ⟨x, H⟩ := H
  obtain ⟨b0, b1, b2, b3, b4, b5, b6, b7, b8, b9, b10, b11, b12, b13, bf⟩ := H.bc
  clear H
  go_enter Tryz.func39, Tryz.ntmps39
  go_wp2
  go_ret
  exact ⟨rfl, rfl⟩

set_option maxHeartbeats 400000 in
theorem bNone (H : BRep w c h st) : Calls Tryz.prog 63 #[.pointer (some ⟨h.b, 0, none⟩)] w fun e w' => e = .returned (.bool false) ∧ w = w' := by
  obtain ⟨x, H⟩ := H
  obtain ⟨b0, b1, b2, b3, b4, b5, b6, b7, b8, b9, b10, b11, b12, b13, bf⟩ := H.bc
  clear H
  go_enter Tryz.func63, Tryz.ntmps63
  go_wp2
  go_ret
  exact ⟨rfl, rfl⟩

set_option maxHeartbeats 400000 in
theorem bSet (H : BRep w c h st) (m : Int) : Calls Tryz.prog 8 #[.pointer (some ⟨h.b, 0, none⟩), .int .i64 m] w (OkB h { st with mode := m } (.tuple #[]) w c) := by
  obtain ⟨x, H⟩ := H
  obtain ⟨b0, b1, b2, b3, b4, b5, b6, b7, b8, b9, b10, b11, b12, b13, bf⟩ := H.bc
  go_enter Tryz.func8, Tryz.ntmps8
  go_wp2
  go_end0
  exact ⟨rfl, c, ⟨x, H.setB 3 _ _ _ rfl rfl rfl rfl rfl rfl rfl ⟨rfl, rfl⟩ rfl⟩, H.mvB 3 _⟩

set_option maxHeartbeats 400000 in
theorem bSetHead (H : BRep w c h st) (m : Int) : Calls Tryz.prog 12 #[.pointer (some ⟨h.b, 0, none⟩), .int .i64 m] w (OkB h { st with head := m } (.tuple #[]) w c) := by
  obtain ⟨x, H⟩ := H
  obtain ⟨b0, b1, b2, b3, b4, b5, b6, b7, b8, b9, b10, b11, b12, b13, bf⟩ := H.bc
  go_enter Tryz.func12, Tryz.ntmps12
  go_wp2
  go_end0
  exact ⟨rfl, c, ⟨x, H.setB 6 _ _ _ rfl rfl rfl rfl rfl rfl rfl ⟨rfl, rfl⟩ rfl⟩, H.mvB 6 _⟩

set_option maxHeartbeats 400000 in
theorem bSetForm (H : BRep w c h st) (m : Int) : Calls Tryz.prog 13 #[.pointer (some ⟨h.b, 0, none⟩), .int .i64 m] w (OkB h { st with form := m } (.tuple #[]) w c) := by
  obtain ⟨x, H⟩ := H
  obtain ⟨b0, b1, b2, b3, b4, b5, b6, b7, b8, b9, b10, b11, b12, b13, bf⟩ := H.bc
  go_enter Tryz.func13, Tryz.ntmps13
  go_wp2
  go_end0
  exact ⟨rfl, c, ⟨x, H.setB 7 _ _ _ rfl rfl rfl rfl rfl rfl rfl ⟨rfl, rfl⟩ rfl⟩, H.mvB 7 _⟩

set_option maxHeartbeats 400000 in
theorem bSetQuirks (H : BRep w c h st) (m : Bool) : Calls Tryz.prog 14 #[.pointer (some ⟨h.b, 0, none⟩), .bool m] w (OkB h { st with quirks := m } (.tuple #[]) w c) := by
  obtain ⟨x, H⟩ := H
  obtain ⟨b0, b1, b2, b3, b4, b5, b6, b7, b8, b9, b10, b11, b12, b13, bf⟩ := H.bc
  go_enter Tryz.func14, Tryz.ntmps14
  go_wp2
  go_end0
  exact ⟨rfl, c, ⟨x, H.setB 8 _ _ _ rfl rfl rfl rfl rfl rfl rfl ⟨rfl, rfl⟩ rfl⟩, H.mvB 8 _⟩

set_option maxHeartbeats 400000 in
theorem bFoster (H : BRep w c h st) (m : Bool) : Calls Tryz.prog 15 #[.pointer (some ⟨h.b, 0, none⟩), .bool m] w (OkB h { st with foster := m } (.tuple #[]) w c) := by
  obtain ⟨x, H⟩ := H
  obtain ⟨b0, b1, b2, b3, b4, b5, b6, b7, b8, b9, b10, b11, b12, b13, bf⟩ := H.bc
  go_enter Tryz.func15, Tryz.ntmps15
  go_wp2
  go_end0
  exact ⟨rfl, c, ⟨x, H.setB 9 _ _ _ rfl rfl rfl rfl rfl rfl rfl ⟨rfl, rfl⟩ rfl⟩, H.mvB 9 _⟩

set_option maxHeartbeats 400000 in
theorem bSetPending (H : BRep w c h st) (m : Str) : Calls Tryz.prog 16 #[.pointer (some ⟨h.b, 0, none⟩), .string m] w (OkB h { st with pending := m } (.tuple #[]) w c) := by
  obtain ⟨x, H⟩ := H
  obtain ⟨b0, b1, b2, b3, b4, b5, b6, b7, b8, b9, b10, b11, b12, b13, bf⟩ := H.bc
  go_enter Tryz.func16, Tryz.ntmps16
  go_wp2
  go_end0
  exact ⟨rfl, c, ⟨x, H.setB 11 _ _ _ rfl rfl rfl rfl rfl rfl rfl ⟨rfl, rfl⟩ rfl⟩, H.mvB 11 _⟩

set_option maxHeartbeats 400000 in
theorem bKeep (H : BRep w c h st) : Calls Tryz.prog 9 #[.pointer (some ⟨h.b, 0, none⟩)] w (OkB h { st with back := st.mode } (.tuple #[]) w c) := by
  obtain ⟨x, H⟩ := H
  obtain ⟨b0, b1, b2, b3, b4, b5, b6, b7, b8, b9, b10, b11, b12, b13, bf⟩ := H.bc
  go_enter Tryz.func9, Tryz.ntmps9
  go_wp2
  go_end0
  exact ⟨rfl, c, ⟨x, H.setB 4 _ _ _ rfl rfl rfl rfl rfl rfl rfl ⟨rfl, rfl⟩ rfl⟩, H.mvB 4 _⟩

set_option maxHeartbeats 400000 in
theorem asNil (w : World) (v : Value) : Calls Tryz.prog 84 #[.nilIface, v] w fun e w' => e = .returned (.bool false) ∧ w = w' := by
  go_enter Tryz.func84, Tryz.ntmps84
  go_wp2_with fail
  go_ret
  exact ⟨rfl, rfl⟩

set_option maxHeartbeats 400000 in
theorem bErr (H : BRep w c h st) : Calls Tryz.prog 41 #[.pointer (some ⟨h.b, 0, none⟩)] w fun e w' => e = .returned (.int .i64 0) ∧ Below w.heap.size w w' := by
  have hN := Lib.hid (bNone H)
  obtain ⟨x, H⟩ := H
  obtain ⟨b0, b1, b2, b3, b4, b5, b6, b7, b8, b9, b10, b11, b12, b13, bf⟩ := H.bc
  have hl := H.hb.lt
  clear H
  go_enter Tryz.func41, Tryz.ntmps41
  go_wp2_with (first | (go_at_call 63; refine hN.out.mono ?_; rintro e w1 ⟨rfl, rfl⟩) | (go_at_call 84; refine (asNil _ _).mono ?_; rintro e w1 ⟨rfl, rfl⟩))
  go_ret
  exact ⟨rfl, below_alloc (Below.refl _ _) _⟩

/-- Fail of no error does nothing. -/
theorem bFail0 (H : BRep w c h st) : Calls Tryz.prog 18 #[.pointer (some ⟨h.b, 0, none⟩), .int .i64 0] w fun e w' => e = .returned (.tuple #[]) ∧ w = w' := by
  have hN := Lib.hid (bNone H)
  obtain ⟨x, H⟩ := H
  obtain ⟨b0, b1, b2, b3, b4, b5, b6, b7, b8, b9, b10, b11, b12, b13, bf⟩ := H.bc
  clear H
  go_enter Tryz.func18, Tryz.ntmps18
  go_wp2_with (go_at_call 63; refine hN.out.mono ?_; rintro e w1 ⟨rfl, rfl⟩)
  go_end0
  exact ⟨rfl, rfl⟩
end
end Go.Proofs.YtjmlkmlbhfkhbaaGreatDoor
