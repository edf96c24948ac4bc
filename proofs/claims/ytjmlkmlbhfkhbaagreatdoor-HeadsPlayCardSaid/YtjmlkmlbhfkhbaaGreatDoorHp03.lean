/-
  The arena's functions that only read.
  The builder's accessors and setters.
-/
import Derived.Test.YtjmlkmlbhfkhbaaGreatDoorHp02
set_option linter.unusedSimpArgs false
set_option linter.unusedVariables false
namespace Go.Proofs.YtjmlkmlbhfkhbaaGreatDoor
open Go Go.RowKit

theorem NdC.cells_len (x : NdC) : x.cells.length = 11 := rfl

theorem flat_at : ∀ (cs : List NdC) (i j : Nat) (x : NdC), cs[i]? = some x → j < 11 → (cs.flatMap NdC.cells)[i * 11 + j]? = x.cells[j]?
  | [], i, j, x, hx, hj => by simp at hx
  | y :: cs, 0, j, x, hx, hj => by
    simp at hx
    subst hx
    rw [List.flatMap_cons, List.getElem?_append_left (by rw [NdC.cells_len]; omega)]
    simp
  | y :: cs, i + 1, j, x, hx, hj => by
    have := flat_at cs i j x (by simpa using hx) hj
    rw [List.flatMap_cons, List.getElem?_append_right (by rw [NdC.cells_len]; omega), NdC.cells_len, ← this]
    congr 1
    omega

/-- What is to be read of an arena. -/
def AV (w : World) (a gn cap : Nat) (cs : List NdC) : Prop :=
  w.cell? ⟨a, 0, none⟩ = some (.slice (some ⟨gn, 0, none⟩) cs.length cap) ∧ cs.length ≤ 1000000000 ∧ ∀ i x j, cs[i]? = some x → j < 11 → w.cell? ⟨gn, i * 11 + j, none⟩ = x.cells[j]?

theorem BRepX.av {w : World} {c : Col} {h : Hd} {x : Sh} {st : St} (H : BRepX w c h x st) (hn : st.ns.length ≤ 1000000000) : AV w h.a x.gn x.ncap x.cs := by
  refine ⟨by rw [H.ha.cell 0]; rfl, by rw [← H.ns] at hn; simpa using hn, fun i y j hy hj => ?_⟩
  have h1 := flat_at x.cs i j y hy hj
  have h2 : j < y.cells.length := by rw [NdC.cells_len]; exact hj
  rw [List.getElem?_eq_getElem h2] at h1 ⊢
  exact H.nodes.row.cell h1

theorem AV.node {w : World} {a gn cap : Nat} {cs : List NdC} (H : AV w a gn cap cs) {i : Nat} {x : NdC} (hx : cs[i]? = some x) :
    w.cell? ⟨gn, i * 11, none⟩ = some (.int .i64 x.nd.kind) ∧ w.cell? ⟨gn, i * 11 + 1, none⟩ = some (.string x.nd.name) ∧ w.cell? ⟨gn, i * 11 + 2, none⟩ = some (.string x.nd.text) ∧
    w.cell? ⟨gn, i * 11 + 3, none⟩ = some (.int .i64 x.nd.space) ∧ w.cell? ⟨gn, i * 11 + 4, none⟩ = some (.slice x.aA x.nd.attrs.length x.acap) ∧ w.cell? ⟨gn, i * 11 + 5, none⟩ = some (.bool x.nd.dup) ∧
    w.cell? ⟨gn, i * 11 + 6, none⟩ = some (.int .i64 x.nd.parent) ∧ w.cell? ⟨gn, i * 11 + 7, none⟩ = some (.int .i64 x.nd.content) ∧ w.cell? ⟨gn, i * 11 + 8, none⟩ = some (.slice x.kA x.nd.kids.length x.kcap) ∧
    w.cell? ⟨gn, i * 11 + 9, none⟩ = some (.int .i64 x.nd.frm) ∧ w.cell? ⟨gn, i * 11 + 10, none⟩ = some (.int .i64 x.nd.to_) :=
  ⟨H.2.2 i x 0 hx (by omega), H.2.2 i x 1 hx (by omega), H.2.2 i x 2 hx (by omega), H.2.2 i x 3 hx (by omega), H.2.2 i x 4 hx (by omega), H.2.2 i x 5 hx (by omega),
    H.2.2 i x 6 hx (by omega), H.2.2 i x 7 hx (by omega), H.2.2 i x 8 hx (by omega), H.2.2 i x 9 hx (by omega), H.2.2 i x 10 hx (by omega)⟩

theorem AV.loc {w w' : World} {a gn cap : Nat} {cs : List NdC} (H : AV w a gn cap cs) (hb : Below w.heap.size w w') : AV w' a gn cap cs := by
  refine ⟨?_, H.2.1, fun i x j hx hj => ?_⟩
  · rw [hb.cell (block_lt_of_cell H.1)]; exact H.1
  · have h1 := H.2.2 i x j hx hj
    have h2 : j < x.cells.length := by rw [NdC.cells_len]; exact hj
    rw [List.getElem?_eq_getElem h2] at h1 ⊢
    rw [hb.cell (block_lt_of_cell h1)]
    exact h1

section
variable {w : World} {a gn cap : Nat} {cs : List NdC}

set_option maxHeartbeats 400000 in
theorem aLen (H : AV w a gn cap cs) : Calls Tryz.prog 95 #[.pointer (some ⟨a, 0, none⟩)] w fun e w' => e = .returned (.int .i64 cs.length) ∧ w = w' := by
  have a0 := H.1
  clear H
  go_enter Tryz.func95, Tryz.ntmps95
  go_wp2_with fail
  go_ret
  exact ⟨rfl, rfl⟩

set_option maxHeartbeats 400000 in
theorem aHas (H : AV w a gn cap cs) (i : Int) : Calls Tryz.prog 113 #[.pointer (some ⟨a, 0, none⟩), .int .i64 i] w fun e w' => e = .returned (.bool (decide (0 ≤ i) && decide (i < cs.length))) ∧ w = w' := by
  by_cases h0 : 0 ≤ i
  · go_enter Tryz.func113, Tryz.ntmps113
    go_wp2_with fail
    refine (aLen H).mono ?_
    rintro e w1 ⟨rfl, rfl⟩
    go_wp2_with fail
    go_ret
    exact ⟨ret_bool (by simp [h0]), rfl⟩
  · go_enter Tryz.func113, Tryz.ntmps113
    go_wp2_with fail
    go_ret
    exact ⟨ret_bool (by rw [decide_eq_false (by omega : ¬ (0 : Int) ≤ i)]; rfl), rfl⟩

set_option maxHeartbeats 400000 in
theorem aNone (H : AV w a gn cap cs) (hne : cs.length ≠ 0) : Calls Tryz.prog 111 #[.pointer (some ⟨a, 0, none⟩)] w fun e w' => e = .returned (.bool false) ∧ w = w' := by
  have a0 := H.1
  have h1 : ((cs.length : Int) == 0) = false := by simp; exact List.ne_nil_of_length_pos (by omega)
  have h2 : (0 : Int) < cs.length := by omega
  clear H
  go_enter Tryz.func111, Tryz.ntmps111
  go_wp2_with fail
  go_ret
  exact ⟨rfl, rfl⟩

theorem aKid (k : Int) (hk : k = 2 ∨ k = 3 ∨ k = 4 ∨ k = 5) : Calls Tryz.prog 118 #[.int .i64 k] w fun e w' => e = .returned (.bool true) ∧ w = w' := by
  rcases hk with rfl | rfl | rfl | rfl <;> (go_enter Tryz.func118, Tryz.ntmps118; go_wp2_with fail; go_ret; exact ⟨rfl, rfl⟩)

set_option maxHeartbeats 1000000 in
theorem aHolds (H : AV w a gn cap cs) {i : Nat} {x : NdC} (hx : cs[i]? = some x) (hk : x.nd.kind = 1 ∨ x.nd.kind = 3 ∨ x.nd.kind = 6) :
    Calls Tryz.prog 116 #[.pointer (some ⟨a, 0, none⟩), .int .i64 i] w fun e w' => e = .returned (.bool true) ∧ w = w' := by
  have hi : i < cs.length := (List.getElem?_eq_some_iff.1 hx).1
  obtain ⟨b0, -⟩ := H.node hx
  have a0 := H.1
  have hh := aHas H i
  have e1 : (decide ((0 : Int) ≤ (i : Int)) && decide ((i : Int) < cs.length)) = true := by simp; omega
  rw [e1] at hh
  have HH := Lib.hid hh
  have hi0 : (0 : Int) ≤ (i : Int) := by omega
  have hi1 : (i : Int) < cs.length := by omega
  clear hh e1 H hx
  go_enter Tryz.func116, Tryz.ntmps116
  go_wp2_with fail
  refine HH.out.mono ?_
  rintro e w1 ⟨rfl, rfl⟩
  rcases hk with hk | hk | hk <;> rw [hk] at b0 <;> (go_wp2_with fail; go_ret; exact ⟨rfl, rfl⟩)

set_option maxHeartbeats 1000000 in
theorem aHangs (H : AV w a gn cap cs) {i : Nat} {x : NdC} (hx : cs[i]? = some x) (hk : x.nd.kind = 2 ∨ x.nd.kind = 3 ∨ x.nd.kind = 4 ∨ x.nd.kind = 5) :
    Calls Tryz.prog 112 #[.pointer (some ⟨a, 0, none⟩), .int .i64 i] w fun e w' => e = .returned (.bool true) ∧ w = w' := by
  have hi : i < cs.length := (List.getElem?_eq_some_iff.1 hx).1
  obtain ⟨b0, -⟩ := H.node hx
  have a0 := H.1
  have hh := aHas H i
  have e1 : (decide ((0 : Int) ≤ (i : Int)) && decide ((i : Int) < cs.length)) = true := by simp; omega
  rw [e1] at hh
  have HH := Lib.hid hh
  have hi0 : (0 : Int) ≤ (i : Int) := by omega
  have hi1 : (i : Int) < cs.length := by omega
  clear hh e1 H hx
  have HK := Lib.hid hk
  clear hk
  go_enter Tryz.func112, Tryz.ntmps112
  go_wp2_with fail
  refine HH.out.mono ?_
  rintro e w1 ⟨rfl, rfl⟩
  go_wp2_with fail
  refine (aKid _ HK.out).mono ?_
  rintro e w1 ⟨rfl, rfl⟩
  go_wp2_with fail
  go_ret
  exact ⟨rfl, rfl⟩

def upOf (i : Nat) (nd : Nd) : Int := if nd.kind = 6 then (i : Int) - 1 else nd.parent
set_option maxHeartbeats 1000000 in
theorem aUp (H : AV w a gn cap cs) {i : Nat} {x : NdC} (hx : cs[i]? = some x) :
    Calls Tryz.prog 158 #[.pointer (some ⟨a, 0, none⟩), .int .i64 i] w fun e w' => e = .returned (.int .i64 (upOf i x.nd)) ∧ w = w' := by
  have hi : i < cs.length := (List.getElem?_eq_some_iff.1 hx).1
  have hsz := H.2.1
  obtain ⟨b0, -, -, -, -, -, b6, -⟩ := H.node hx
  have a0 := H.1
  have hi0 : (0 : Int) ≤ (i : Int) := by omega
  have hi1 : (i : Int) < cs.length := by omega
  clear H hx
  by_cases hk : x.nd.kind = 6
  · have hk' : (x.nd.kind == 6) = true := by simp [hk]
    have HK := Lib.hid hk
    clear hk
    go_enter Tryz.func158, Tryz.ntmps158
    go_wp2_with fail
    go_ret
    exact ⟨ret_int (by unfold upOf; rw [if_pos HK.out]), rfl⟩
  · have hk' : (x.nd.kind == 6) = false := by simp [hk]
    have HK := Lib.hid hk
    clear hk
    go_enter Tryz.func158, Tryz.ntmps158
    go_wp2_with fail
    go_ret
    exact ⟨ret_int (by unfold upOf; rw [if_neg HK.out]), rfl⟩

/-- What stands above a node has a smaller number. -/
def UpOk (cs : List NdC) : Prop := ∀ (i : Nat) (x : NdC), cs[i]? = some x → -1 ≤ x.nd.parent ∧ x.nd.parent < (i : Int)

set_option maxHeartbeats 1000000 in
theorem aAbove (H : AV w a gn cap cs) (hup : UpOk cs) (i : Nat) (p : Int) (hp : -1 ≤ p) (hpi : p < i) (hpl : p < cs.length) :
    Calls Tryz.prog 114 #[.pointer (some ⟨a, 0, none⟩), .int .i64 i, .int .i64 p] w fun e w' => e = .returned (.bool false) ∧ w = w' := by
  go_enter Tryz.func114, Tryz.ntmps114
  go_wp2_with fail
  go_loop [2] (fun t => ∃ q : Int, t = .int .i64 q ∧ -1 ≤ q ∧ q < i ∧ q < cs.length) (fun t => (intOf t + 1).toNat)
  case atStart => exact ⟨p, rfl, hp, hpi, hpl⟩
  case round =>
    obtain ⟨q, rfl, h1, h2, h3⟩ := hrel
    by_cases h0 : 0 ≤ q
    · obtain ⟨n, rfl⟩ := Int.eq_ofNat_of_zero_le h0
      have hn : n < cs.length := by omega
      obtain ⟨x, hx⟩ : ∃ x, cs[n]? = some x := ⟨cs[n], List.getElem?_eq_getElem hn⟩
      have hne : ((n : Int) == (i : Int)) = false := by simp; omega
      have hu := hup n x hx
      have HU := Lib.hid hu
      have HX := Lib.hid hx
      have HUP := Lib.hid hup
      clear hu hx hup
      go_wp2_with fail
      refine (aUp H HX.out).mono ?_
      rintro e w1 ⟨rfl, rfl⟩
      go_wp2_with fail
      go_round
      case rel =>
        refine ⟨_, rfl, ?_, ?_, ?_⟩ <;> (have := HU.out; unfold upOf; split <;> omega)
      case measure =>
        have := HU.out
        simp only [intOf]
        unfold upOf
        split <;> omega
    · go_wp2_with fail
      go_ret
      exact ⟨rfl, rfl⟩
end

end Go.Proofs.YtjmlkmlbhfkhbaaGreatDoor
namespace Go.Proofs.YtjmlkmlbhfkhbaaGreatDoor
open Go Go.RowKit

theorem BRepX.bc {w : World} {c : Col} {h : Hd} {x : Sh} {st : St} (H : BRepX w c h x st) :
    w.cell? ⟨h.b, 0, none⟩ = some (.pointer (some ⟨h.a, 0, none⟩)) ∧ w.cell? ⟨h.b, 1, none⟩ = some (.pointer (some ⟨h.s, 0, none⟩)) ∧ w.cell? ⟨h.b, 2, none⟩ = some (.pointer (some ⟨h.l, 0, none⟩)) ∧
    w.cell? ⟨h.b, 3, none⟩ = some (.int .i64 st.mode) ∧ w.cell? ⟨h.b, 4, none⟩ = some (.int .i64 st.back) ∧ w.cell? ⟨h.b, 5, none⟩ = some (.slice x.mA st.modes.length x.mcap) ∧
    w.cell? ⟨h.b, 6, none⟩ = some (.int .i64 st.head) ∧ w.cell? ⟨h.b, 7, none⟩ = some (.int .i64 st.form) ∧ w.cell? ⟨h.b, 8, none⟩ = some (.bool st.quirks) ∧
    w.cell? ⟨h.b, 9, none⟩ = some (.bool st.foster) ∧ w.cell? ⟨h.b, 10, none⟩ = some (.bool st.skip) ∧ w.cell? ⟨h.b, 11, none⟩ = some (.string st.pending) ∧
    w.cell? ⟨h.b, 12, none⟩ = some (.pointer x.kA) ∧ w.cell? ⟨h.b, 13, none⟩ = some .nilIface ∧ (∀ i, w.frozen? ⟨h.b, i, none⟩ = false) :=
  ⟨H.hb.cell 0, H.hb.cell 1, H.hb.cell 2, H.hb.cell 3, H.hb.cell 4, H.hb.cell 5, H.hb.cell 6, H.hb.cell 7, H.hb.cell 8, H.hb.cell 9, H.hb.cell 10, H.hb.cell 11, H.hb.cell 12, H.hb.cell 13, H.hb.frozen⟩

/-- A store into the builder's own block. -/
theorem BRepX.setB {w : World} {c : Col} {h : Hd} {x : Sh} {st : St} (H : BRepX w c h x st) (j : Nat) (v : Value) (st' : St) (x' : Sh)
    (hc : bCells h x' st' = (bCells h x st).set j v) (e1 : st'.ns = st.ns) (e2 : st'.stk = st.stk) (e3 : st'.fmt = st.fmt) (e4 : st'.modes = st.modes) (e5 : st'.ask = st.ask)
    (f : x' = { x with kA := x'.kA, mA := x'.mA, mcap := x'.mcap }) (f4 : x'.mA = x.mA ∧ x'.mcap = x.mcap) (f5 : x'.kA = x.kA) : BRepX (w.setCell ⟨h.b, j, none⟩ v) c h x' st' := by
  have hx : x' = x := by rw [f, f4.1, f4.2, f5]
  subst hx
  have hk : ∀ p i, p ≠ 1 → Kp (h.sd, p, i) w c (w.setCell ⟨h.b, j, none⟩ v) c := fun p i hp => kp_setCell (by rw [H.hb.1]; simp; omega) v
  have hg : Good (w.setCell ⟨h.b, j, none⟩ v) c := fun g hs => H.gd g (by simpa [World.setCell] using hs)
  refine ⟨hg, H.sd, ?_, H.ha.kp (hk _ _ (by decide)), ?_, by rw [e1]; exact H.ns, ?_, ?_, ?_, ?_, ?_, ?_⟩
  · rw [hc]; exact H.hb.set_ j v
  · exact ⟨H.nodes.row.kp (hk _ _ (by decide)), fun i y hy => ⟨(H.nodes.each i y hy).1.kp (hk _ _ (by decide)), (H.nodes.each i y hy).2.kp (hk _ _ (by decide))⟩⟩
  · rw [e2]; exact H.hs.kp (hk _ _ (by decide))
  · rw [e2]; exact H.stk.kp (hk _ _ (by decide))
  · rw [e3]; exact H.hl.kp (hk _ _ (by decide))
  · rw [e3]; exact H.fmt.kp (hk _ _ (by decide))
  · rw [e4]; exact H.modes.kp (hk _ _ (by decide))
  · have := H.ask
    rw [e5]
    cases hs : st.ask with
    | none => rw [hs] at this; exact this
    | some p =>
      rw [hs] at this
      obtain ⟨g, h1, h2⟩ := this
      exact ⟨g, h1, h2.kp (hk _ _ (by decide))⟩

theorem BRepX.mvB {w : World} {c : Col} {h : Hd} {x : Sh} {st : St} (H : BRepX w c h x st) (j : Nat) (v : Value) : Mv (Pr h) w c (w.setCell ⟨h.b, j, none⟩ v) c :=
  Mv.setCell (show (c h.b).1 = h.sd by rw [H.hb.1]) v

/-- A call that ends with a value, the builder being in a state. -/
def OkB (h : Hd) (st : St) (v : Value) (w : World) (c : Col) (e : Ending) (w' : World) : Prop := e = .returned v ∧ ∃ c', BRep w' c' h st ∧ Mv (Pr h) w c w' c'

section
variable {w : World} {c : Col} {h : Hd} {st : St}

set_option maxHeartbeats 400000 in
theorem bArena (H : BRep w c h st) : Calls Tryz.prog 30 #[.pointer (some ⟨h.b, 0, none⟩)] w fun e w' => e = .returned (.pointer (some ⟨h.a, 0, none⟩)) ∧ w = w' := by
  obtain ⟨x, H⟩ := H
  obtain ⟨b0, b1, b2, b3, b4, b5, b6, b7, b8, b9, b10, b11, b12, b13, bf⟩ := H.bc
  clear H
  go_enter Tryz.func30, Tryz.ntmps30
  go_wp2
  go_ret
  exact ⟨rfl, rfl⟩

set_option maxHeartbeats 400000 in
theorem bStack (H : BRep w c h st) : Calls Tryz.prog 31 #[.pointer (some ⟨h.b, 0, none⟩)] w fun e w' => e = .returned (.pointer (some ⟨h.s, 0, none⟩)) ∧ w = w' := by
  obtain ⟨x, H⟩ := H
  obtain ⟨b0, b1, b2, b3, b4, b5, b6, b7, b8, b9, b10, b11, b12, b13, bf⟩ := H.bc
  clear H
  go_enter Tryz.func31, Tryz.ntmps31
  go_wp2
  go_ret
  exact ⟨rfl, rfl⟩

set_option maxHeartbeats 400000 in
theorem bFormats (H : BRep w c h st) : Calls Tryz.prog 32 #[.pointer (some ⟨h.b, 0, none⟩)] w fun e w' => e = .returned (.pointer (some ⟨h.l, 0, none⟩)) ∧ w = w' := by
  obtain ⟨x, H⟩ := H
  obtain ⟨b0, b1, b2, b3, b4, b5, b6, b7, b8, b9, b10, b11, b12, b13, bf⟩ := H.bc
  clear H
  go_enter Tryz.func32, Tryz.ntmps32
  go_wp2
  go_ret
  exact ⟨rfl, rfl⟩

set_option maxHeartbeats 400000 in
theorem bMode (H : BRep w c h st) : Calls Tryz.prog 33 #[.pointer (some ⟨h.b, 0, none⟩)] w fun e w' => e = .returned (.int .i64 st.mode) ∧ w = w' := by
  obtain ⟨x, H⟩ := H
  obtain ⟨b0, b1, b2, b3, b4, b5, b6, b7, b8, b9, b10, b11, b12, b13, bf⟩ := H.bc
  clear H
  go_enter Tryz.func33, Tryz.ntmps33
  go_wp2
  go_ret
  exact ⟨rfl, rfl⟩

set_option maxHeartbeats 400000 in
theorem bBack (H : BRep w c h st) : Calls Tryz.prog 34 #[.pointer (some ⟨h.b, 0, none⟩)] w fun e w' => e = .returned (.int .i64 st.back) ∧ w = w' := by
  obtain ⟨x, H⟩ := H
  obtain ⟨b0, b1, b2, b3, b4, b5, b6, b7, b8, b9, b10, b11, b12, b13, bf⟩ := H.bc
  clear H
  go_enter Tryz.func34, Tryz.ntmps34
  go_wp2
  go_ret
  exact ⟨rfl, rfl⟩

set_option maxHeartbeats 400000 in
theorem bHead (H : BRep w c h st) : Calls Tryz.prog 36 #[.pointer (some ⟨h.b, 0, none⟩)] w fun e w' => e = .returned (.int .i64 st.head) ∧ w = w' := by
  obtain ⟨x, H⟩ := H
  obtain ⟨b0, b1, b2, b3, b4, b5, b6, b7, b8, b9, b10, b11, b12, b13, bf⟩ := H.bc
  clear H
  go_enter Tryz.func36, Tryz.ntmps36
  go_wp2
  go_ret
  exact ⟨rfl, rfl⟩

set_option maxHeartbeats 400000 in
theorem bForm (H : BRep w c h st) : Calls Tryz.prog 37 #[.pointer (some ⟨h.b, 0, none⟩)] w fun e w' => e = .returned (.int .i64 st.form) ∧ w = w' := by
  obtain ⟨x, H⟩ := H
  obtain ⟨b0, b1, b2, b3, b4, b5, b6, b7, b8, b9, b10, b11, b12, b13, bf⟩ := H.bc
  clear H
  go_enter Tryz.func37, Tryz.ntmps37
  go_wp2
  go_ret
  exact ⟨rfl, rfl⟩

set_option maxHeartbeats 400000 in
theorem bQuirks (H : BRep w c h st) : Calls Tryz.prog 38 #[.pointer (some ⟨h.b, 0, none⟩)] w fun e w' => e = .returned (.bool st.quirks) ∧ w = w' := by
  obtain ⟨x, H⟩ := H
  obtain ⟨b0, b1, b2, b3, b4, b5, b6, b7, b8, b9, b10, b11, b12, b13, bf⟩ := H.bc
  clear H
  go_enter Tryz.func38, Tryz.ntmps38
  go_wp2
  go_ret
  exact ⟨rfl, rfl⟩

set_option maxHeartbeats 400000 in
theorem bPending (H : BRep w c h st) : Calls Tryz.prog 39 #[.pointer (some ⟨h.b, 0, none⟩)] w fun e w' => e = .returned (.string st.pending) ∧ w = w' := by
  obtain ⟨x, H⟩ := H
  obtain ⟨b0, b1, b2, b3, b4, b5, b6, b7, b8, b9, b10, b11, b12, b13, bf⟩ := H.bc
  clear H
  go_enter Tryz.func39, Tryz.ntmps39
  go_wp2
  go_ret
  exact ⟨rfl, rfl⟩

set_option maxHeartbeats 400000 in
theorem bNone (H : BRep w c h st) : Calls Tryz.prog 63 #[.pointer (some ⟨h.b, 0, none⟩)] w fun e w' => e = .returned (.bool false) ∧ w = w' := by
  obtain ⟨x, H⟩ := H
  obtain ⟨b0, b1, b2, b3, b4, b5, b6, b7, b8, b9, b10, b11, b12, b13, bf⟩ := H.bc
  clear H
  go_enter Tryz.func63, Tryz.ntmps63
  go_wp2
  go_ret
  exact ⟨rfl, rfl⟩

set_option maxHeartbeats 400000 in
theorem bSet (H : BRep w c h st) (m : Int) : Calls Tryz.prog 8 #[.pointer (some ⟨h.b, 0, none⟩), .int .i64 m] w (OkB h { st with mode := m } (.tuple #[]) w c) := by
  obtain ⟨x, H⟩ := H
  obtain ⟨b0, b1, b2, b3, b4, b5, b6, b7, b8, b9, b10, b11, b12, b13, bf⟩ := H.bc
  go_enter Tryz.func8, Tryz.ntmps8
  go_wp2
  go_end0
  exact ⟨rfl, c, ⟨x, H.setB 3 _ _ _ rfl rfl rfl rfl rfl rfl rfl ⟨rfl, rfl⟩ rfl⟩, H.mvB 3 _⟩

set_option maxHeartbeats 400000 in
theorem bSetHead (H : BRep w c h st) (m : Int) : Calls Tryz.prog 12 #[.pointer (some ⟨h.b, 0, none⟩), .int .i64 m] w (OkB h { st with head := m } (.tuple #[]) w c) := by
  obtain ⟨x, H⟩ := H
  obtain ⟨b0, b1, b2, b3, b4, b5, b6, b7, b8, b9, b10, b11, b12, b13, bf⟩ := H.bc
  go_enter Tryz.func12, Tryz.ntmps12
  go_wp2
  go_end0
  exact ⟨rfl, c, ⟨x, H.setB 6 _ _ _ rfl rfl rfl rfl rfl rfl rfl ⟨rfl, rfl⟩ rfl⟩, H.mvB 6 _⟩

set_option maxHeartbeats 400000 in
theorem bSetForm (H : BRep w c h st) (m : Int) : Calls Tryz.prog 13 #[.pointer (some ⟨h.b, 0, none⟩), .int .i64 m] w (OkB h { st with form := m } (.tuple #[]) w c) := by
  obtain ⟨x, H⟩ := H
  obtain ⟨b0, b1, b2, b3, b4, b5, b6, b7, b8, b9, b10, b11, b12, b13, bf⟩ := H.bc
  go_enter Tryz.func13, Tryz.ntmps13
  go_wp2
  go_end0
  exact ⟨rfl, c, ⟨x, H.setB 7 _ _ _ rfl rfl rfl rfl rfl rfl rfl ⟨rfl, rfl⟩ rfl⟩, H.mvB 7 _⟩

set_option maxHeartbeats 400000 in
theorem bSetQuirks (H : BRep w c h st) (m : Bool) : Calls Tryz.prog 14 #[.pointer (some ⟨h.b, 0, none⟩), .bool m] w (OkB h { st with quirks := m } (.tuple #[]) w c) := by
  obtain ⟨x, H⟩ := H
  obtain ⟨b0, b1, b2, b3, b4, b5, b6, b7, b8, b9, b10, b11, b12, b13, bf⟩ := H.bc
  go_enter Tryz.func14, Tryz.ntmps14
  go_wp2
  go_end0
  exact ⟨rfl, c, ⟨x, H.setB 8 _ _ _ rfl rfl rfl rfl rfl rfl rfl ⟨rfl, rfl⟩ rfl⟩, H.mvB 8 _⟩

set_option maxHeartbeats 400000 in
theorem bFoster (H : BRep w c h st) (m : Bool) : Calls Tryz.prog 15 #[.pointer (some ⟨h.b, 0, none⟩), .bool m] w (OkB h { st with foster := m } (.tuple #[]) w c) := by
  obtain ⟨x, H⟩ := H
  obtain ⟨b0, b1, b2, b3, b4, b5, b6, b7, b8, b9, b10, b11, b12, b13, bf⟩ := H.bc
  go_enter Tryz.func15, Tryz.ntmps15
  go_wp2
  go_end0
  exact ⟨rfl, c, ⟨x, H.setB 9 _ _ _ rfl rfl rfl rfl rfl rfl rfl ⟨rfl, rfl⟩ rfl⟩, H.mvB 9 _⟩

set_option maxHeartbeats 400000 in
theorem bSetPending (H : BRep w c h st) (m : Str) : Calls Tryz.prog 16 #[.pointer (some ⟨h.b, 0, none⟩), .string m] w (OkB h { st with pending := m } (.tuple #[]) w c) := by
  obtain ⟨x, H⟩ := H
  obtain ⟨b0, b1, b2, b3, b4, b5, b6, b7, b8, b9, b10, b11, b12, b13, bf⟩ := H.bc
  go_enter Tryz.func16, Tryz.ntmps16
  go_wp2
  go_end0
  exact ⟨rfl, c, ⟨x, H.setB 11 _ _ _ rfl rfl rfl rfl rfl rfl rfl ⟨rfl, rfl⟩ rfl⟩, H.mvB 11 _⟩

set_option maxHeartbeats 400000 in
theorem bKeep (H : BRep w c h st) : Calls Tryz.prog 9 #[.pointer (some ⟨h.b, 0, none⟩)] w (OkB h { st with back := st.mode } (.tuple #[]) w c) := by
  obtain ⟨x, H⟩ := H
  obtain ⟨b0, b1, b2, b3, b4, b5, b6, b7, b8, b9, b10, b11, b12, b13, bf⟩ := H.bc
  go_enter Tryz.func9, Tryz.ntmps9
  go_wp2
  go_end0
  exact ⟨rfl, c, ⟨x, H.setB 4 _ _ _ rfl rfl rfl rfl rfl rfl rfl ⟨rfl, rfl⟩ rfl⟩, H.mvB 4 _⟩

set_option maxHeartbeats 400000 in
theorem asNil (w : World) (v : Value) : Calls Tryz.prog 84 #[.nilIface, v] w fun e w' => e = .returned (.bool false) ∧ w = w' := by
  go_enter Tryz.func84, Tryz.ntmps84
  go_wp2_with fail
  go_ret
  exact ⟨rfl, rfl⟩

set_option maxHeartbeats 400000 in
theorem bErr (H : BRep w c h st) : Calls Tryz.prog 41 #[.pointer (some ⟨h.b, 0, none⟩)] w fun e w' => e = .returned (.int .i64 0) ∧ Below w.heap.size w w' := by
  have hN := Lib.hid (bNone H)
  obtain ⟨x, H⟩ := H
  obtain ⟨b0, b1, b2, b3, b4, b5, b6, b7, b8, b9, b10, b11, b12, b13, bf⟩ := H.bc
  have hl := H.hb.lt
  clear H
  go_enter Tryz.func41, Tryz.ntmps41
  go_wp2_with (first | (go_at_call 63; refine hN.out.mono ?_; rintro e w1 ⟨rfl, rfl⟩) | (go_at_call 84; refine (asNil _ _).mono ?_; rintro e w1 ⟨rfl, rfl⟩))
  go_ret
  exact ⟨rfl, below_alloc (Below.refl _ _) _⟩

/-- Fail of no error does nothing. -/
theorem bFail0 (H : BRep w c h st) : Calls Tryz.prog 18 #[.pointer (some ⟨h.b, 0, none⟩), .int .i64 0] w fun e w' => e = .returned (.tuple #[]) ∧ w = w' := by
  have hN := Lib.hid (bNone H)
  obtain ⟨x, H⟩ := H
  obtain ⟨b0, b1, b2, b3, b4, b5, b6, b7, b8, b9, b10, b11, b12, b13, bf⟩ := H.bc
  clear H
  go_enter Tryz.func18, Tryz.ntmps18
  go_wp2_with (go_at_call 63; refine hN.out.mono ?_; rintro e w1 ⟨rfl, rfl⟩)
  go_end0
  exact ⟨rfl, rfl⟩
end
end Go.Proofs.YtjmlkmlbhfkhbaaGreatDoor
