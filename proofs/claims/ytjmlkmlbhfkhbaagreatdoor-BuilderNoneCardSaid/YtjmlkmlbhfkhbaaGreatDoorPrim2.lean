/-
  The stack's row, the list's, the template modes' are others, and their slice is stored.
-/
import Derived.Test.YtjmlkmlbhfkhbaaGreatDoorAr4
namespace Go.Proofs.YtjmlkmlbhfkhbaaGreatDoor
open Go Go.RowKit

theorem setStk {w w2 : World} {c c2 : Col} {h : Hd} {x : Sh} {st : St} (H : BRepX w c h x st) {A : Option Addr} {cap : Nat} {l : List OpE}
    (hrow : RowOk w2 c2 (h.sd, 7, 0) 133 3 A l.length cap (l.flatMap OpE.cells)) (hm : Mv (· = (h.sd, 7, 0)) w c w2 c2) :
    BRepX (w2.setCell ⟨h.s, 1, none⟩ (.slice A l.length cap)) c2 h { x with sA := A, scap := cap } { st with stk := l } ∧ Mv (Pr h) w c (w2.setCell ⟨h.s, 1, none⟩ (.slice A l.length cap)) c2 := by
  have hg2 : Good w2 c2 := hm.gd H.gd
  have hs2 := H.hs.kp (hm.kp (by simp))
  generalize hw3 : w2.setCell ⟨h.s, 1, none⟩ (.slice A l.length cap) = w3
  have hz3 : w3.heap.size = w2.heap.size := by rw [← hw3]; simp [World.setCell]
  have hst : ∀ k, k ≠ (h.sd, 6, 0) → Kp k w2 c2 w3 c2 := fun k hk => by rw [← hw3]; exact kp_setCell (by rw [hs2.1]; exact fun e => hk e.symm) _
  have hk : ∀ q i', q ∉ [7, 6] → Kp (h.sd, q, i') w c w3 c2 := fun q i' hq => (hm.kp (S := (· = (h.sd, 7, 0))) (by simp at hq; simp; omega)).trans hm.size (hst _ (by simp at hq; simp; omega))
  obtain ⟨o1, o2, o3, o4, o5, -, -, o8, o9, o10, o11⟩ := H.others [7, 6] hk
  have hg3 : Good w3 c2 := fun g hs => hg2 g (by omega)
  refine ⟨⟨hg3, H.sd, o1 (by decide), o2 (by decide), ⟨o3 (by decide), fun i y hy => ⟨o4 (by decide) i y hy, o5 (by decide) i y hy⟩⟩, H.ns, ?_, hrow.kp (hst _ (by simp)), o8 (by decide), o9 (by decide), o10 (by decide), o11 (by decide)⟩, ?_⟩
  · have := hs2.set_ 1 (.slice A l.length cap)
    rw [hw3] at this
    exact this
  · refine ⟨?_, ?_, ?_, by have := hm.size; omega, hm.ext, fun g hg hs => ?_, fun _ => hg3⟩
    · rw [← hw3]; exact hm.os
    · rw [← hw3]; exact hm.tape
    · rw [← hw3]; exact hm.output
    · have hne : g ≠ h.s := fun e => hs (by
        rw [← hm.ext g hg, e, hs2.1]; rfl)
      rw [← hw3, heap_setCell_other _ _ _ _ hne]
      exact hm.blk g hg (fun e => hs (by rw [e]; rfl))

theorem setFmt {w w2 : World} {c c2 : Col} {h : Hd} {x : Sh} {st : St} (H : BRepX w c h x st) {A : Option Addr} {cap : Nat} {l : List Int}
    (hrow : RowOk w2 c2 (h.sd, 9, 0) 3 1 A l.length cap (intCells l)) (hm : Mv (· = (h.sd, 9, 0)) w c w2 c2) :
    BRepX (w2.setCell ⟨h.l, 1, none⟩ (.slice A l.length cap)) c2 h { x with fA := A, fcap := cap } { st with fmt := l } ∧ Mv (Pr h) w c (w2.setCell ⟨h.l, 1, none⟩ (.slice A l.length cap)) c2 := by
  have hg2 : Good w2 c2 := hm.gd H.gd
  have hs2 := H.hl.kp (hm.kp (by simp))
  generalize hw3 : w2.setCell ⟨h.l, 1, none⟩ (.slice A l.length cap) = w3
  have hz3 : w3.heap.size = w2.heap.size := by rw [← hw3]; simp [World.setCell]
  have hst : ∀ k, k ≠ (h.sd, 8, 0) → Kp k w2 c2 w3 c2 := fun k hk => by rw [← hw3]; exact kp_setCell (by rw [hs2.1]; exact fun e => hk e.symm) _
  have hk : ∀ q i', q ∉ [9, 8] → Kp (h.sd, q, i') w c w3 c2 := fun q i' hq => (hm.kp (S := (· = (h.sd, 9, 0))) (by simp at hq; simp; omega)).trans hm.size (hst _ (by simp at hq; simp; omega))
  obtain ⟨o1, o2, o3, o4, o5, o6, o7, -, -, o10, o11⟩ := H.others [9, 8] hk
  have hg3 : Good w3 c2 := fun g hs => hg2 g (by omega)
  refine ⟨⟨hg3, H.sd, o1 (by decide), o2 (by decide), ⟨o3 (by decide), fun i y hy => ⟨o4 (by decide) i y hy, o5 (by decide) i y hy⟩⟩, H.ns, o6 (by decide), o7 (by decide), ?_, hrow.kp (hst _ (by simp)), o10 (by decide), o11 (by decide)⟩, ?_⟩
  · have := hs2.set_ 1 (.slice A l.length cap)
    rw [hw3] at this
    exact this
  · refine ⟨?_, ?_, ?_, by have := hm.size; omega, hm.ext, fun g hg hs => ?_, fun _ => hg3⟩
    · rw [← hw3]; exact hm.os
    · rw [← hw3]; exact hm.tape
    · rw [← hw3]; exact hm.output
    · have hne : g ≠ h.l := fun e => hs (by
        rw [← hm.ext g hg, e, hs2.1]; rfl)
      rw [← hw3, heap_setCell_other _ _ _ _ hne]
      exact hm.blk g hg (fun e => hs (by rw [e]; rfl))

theorem setModes {w w2 : World} {c c2 : Col} {h : Hd} {x : Sh} {st : St} (H : BRepX w c h x st) {A : Option Addr} {cap : Nat} {l : List Int}
    (hrow : RowOk w2 c2 (h.sd, 10, 0) 3 1 A l.length cap (intCells l)) (hm : Mv (· = (h.sd, 10, 0)) w c w2 c2) :
    BRepX (w2.setCell ⟨h.b, 5, none⟩ (.slice A l.length cap)) c2 h { x with mA := A, mcap := cap } { st with modes := l } ∧ Mv (Pr h) w c (w2.setCell ⟨h.b, 5, none⟩ (.slice A l.length cap)) c2 := by
  have hg2 : Good w2 c2 := hm.gd H.gd
  have hs2 := H.hb.kp (hm.kp (by simp))
  generalize hw3 : w2.setCell ⟨h.b, 5, none⟩ (.slice A l.length cap) = w3
  have hz3 : w3.heap.size = w2.heap.size := by rw [← hw3]; simp [World.setCell]
  have hst : ∀ k, k ≠ (h.sd, 1, 0) → Kp k w2 c2 w3 c2 := fun k hk => by rw [← hw3]; exact kp_setCell (by rw [hs2.1]; exact fun e => hk e.symm) _
  have hk : ∀ q i', q ∉ [10, 1] → Kp (h.sd, q, i') w c w3 c2 := fun q i' hq => (hm.kp (S := (· = (h.sd, 10, 0))) (by simp at hq; simp; omega)).trans hm.size (hst _ (by simp at hq; simp; omega))
  obtain ⟨-, o2, o3, o4, o5, o6, o7, o8, o9, -, o11⟩ := H.others [10, 1] hk
  have hg3 : Good w3 c2 := fun g hs => hg2 g (by omega)
  refine ⟨⟨hg3, H.sd, ?_, o2 (by decide), ⟨o3 (by decide), fun i y hy => ⟨o4 (by decide) i y hy, o5 (by decide) i y hy⟩⟩, H.ns, o6 (by decide), o7 (by decide), o8 (by decide), o9 (by decide), hrow.kp (hst _ (by simp)), o11 (by decide)⟩, ?_⟩
  · have := hs2.set_ 5 (.slice A l.length cap)
    rw [hw3] at this
    exact this
  · refine ⟨?_, ?_, ?_, by have := hm.size; omega, hm.ext, fun g hg hs => ?_, fun _ => hg3⟩
    · rw [← hw3]; exact hm.os
    · rw [← hw3]; exact hm.tape
    · rw [← hw3]; exact hm.output
    · have hne : g ≠ h.b := fun e => hs (by
        rw [← hm.ext g hg, e, hs2.1]; rfl)
      rw [← hw3, heap_setCell_other _ _ _ _ hne]
      exact hm.blk g hg (fun e => hs (by rw [e]; rfl))

end Go.Proofs.YtjmlkmlbhfkhbaaGreatDoor
