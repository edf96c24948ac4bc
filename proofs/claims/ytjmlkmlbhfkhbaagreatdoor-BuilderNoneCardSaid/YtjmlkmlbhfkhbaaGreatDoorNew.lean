/-
  builder.New.
-/
import Derived.Test.YtjmlkmlbhfkhbaaGreatDoorBld4
namespace Go.Proofs.YtjmlkmlbhfkhbaaGreatDoor
open Go Go.RowKit

def docNd : Nd := { kind := 1, name := ⟨#[]⟩, text := ⟨#[]⟩, space := 0, attrs := [], dup := false, parent := -1, content := 0, kids := [], frm := -1, to_ := -1 }
def st0 : St := { ns := [docNd], stk := [], fmt := [], mode := 0, back := 0, modes := [], head := -1, form := -1, quirks := false, foster := false, skip := false, pending := ⟨#[]⟩, ask := none }

theorem Wf.st0 : Wf 1 st0 := by
  refine ⟨⟨Nat.le_refl _, by decide, ?_⟩, ?_, ?_, ?_, ?_, ?_, rfl⟩
  · intro i n hn
    rcases i with _ | i
    · simp [Go.Proofs.YtjmlkmlbhfkhbaaGreatDoor.st0] at hn; subst hn; exact ⟨by decide, by decide, by decide⟩
    · simp [Go.Proofs.YtjmlkmlbhfkhbaaGreatDoor.st0] at hn
  · intro k o ho; simp [Go.Proofs.YtjmlkmlbhfkhbaaGreatDoor.st0] at ho
  · intro i n hn
    rcases i with _ | i
    · simp [Go.Proofs.YtjmlkmlbhfkhbaaGreatDoor.st0] at hn; subst hn; decide
    · simp [Go.Proofs.YtjmlkmlbhfkhbaaGreatDoor.st0] at hn
  · intro n hn
    simp [Go.Proofs.YtjmlkmlbhfkhbaaGreatDoor.st0] at hn; subst hn; rfl
  · intro i n hn hq
    rcases i with _ | i
    · simp [Go.Proofs.YtjmlkmlbhfkhbaaGreatDoor.st0] at hn; subst hn; exact absurd hq (by decide)
    · simp [Go.Proofs.YtjmlkmlbhfkhbaaGreatDoor.st0] at hn
  · intro i n hn k hk
    rcases i with _ | i
    · simp [Go.Proofs.YtjmlkmlbhfkhbaaGreatDoor.st0] at hn; subst hn; simp [docNd] at hk
    · simp [Go.Proofs.YtjmlkmlbhfkhbaaGreatDoor.st0] at hn

/-- The worlds of New, and the builder that lies there. -/
theorem newRep {w w1 : World} {c : Col} (hg : Good w c) {sd : Nat} (hsd : sd ≠ 0) (hb : Below w.heap.size w w1) {A : Option Addr} {cp : Nat} (hr : RowNew w.heap.size w1 84 2 A 0 cp []) :
    ∃ c', BRep (((((w1.alloc (.cells (NdC.cells { nd := docNd, aA := A, acap := cp, kA := none, kcap := 0 }).toArray 58)).alloc (.cells [.slice (some ⟨w1.heap.size, 0, none⟩) 1 1].toArray 123)).alloc
      (.cells [.pointer (some ⟨w1.heap.size + 1, 0, none⟩), .slice none 0 0].toArray 121)).alloc (.cells [.pointer (some ⟨w1.heap.size + 1, 0, none⟩), .slice none 0 0].toArray 117)).alloc
      (.cells (bCells ⟨sd, w1.heap.size + 4, w1.heap.size + 1, w1.heap.size + 2, w1.heap.size + 3⟩ ⟨w1.heap.size, 1, [], none, 0, none, 0, none, 0, none⟩ st0).toArray 36)) c' ⟨sd, w1.heap.size + 4, w1.heap.size + 1, w1.heap.size + 2, w1.heap.size + 3⟩ st0 ∧
      Mv (fun _ => False) w c (((((w1.alloc (.cells (NdC.cells { nd := docNd, aA := A, acap := cp, kA := none, kcap := 0 }).toArray 58)).alloc (.cells [.slice (some ⟨w1.heap.size, 0, none⟩) 1 1].toArray 123)).alloc
      (.cells [.pointer (some ⟨w1.heap.size + 1, 0, none⟩), .slice none 0 0].toArray 121)).alloc (.cells [.pointer (some ⟨w1.heap.size + 1, 0, none⟩), .slice none 0 0].toArray 117)).alloc
      (.cells (bCells ⟨sd, w1.heap.size + 4, w1.heap.size + 1, w1.heap.size + 2, w1.heap.size + 3⟩ ⟨w1.heap.size, 1, [], none, 0, none, 0, none, 0, none⟩ st0).toArray 36)) c' := by
  have hz := hb.size
  obtain ⟨c1, hr1, hc1⟩ := hr.own c (sd, 5, 0)
  have hm1 : Mv (fun _ => False) w c w1 c1 := by
    refine ⟨hb.os, hb.tape, hb.output, hb.size, fun g hgg => ?_, fun g hgg _ => hb.block g hgg, fun _ g hgg => ?_⟩
    · rcases hc1 with rfl | ⟨g0, h1, h2, rfl, -⟩
      · rfl
      · exact paint_other _ _ (by omega)
    · rcases hc1 with rfl | ⟨g0, h1, h2, rfl, -⟩
      · exact hg g (by omega)
      · rw [paint_other _ _ (by omega)]; exact hg g (by omega)
  -- block by block
  have s1 := Mv.alloc_paint (S := fun _ => False) w1 c1 (.cells (NdC.cells { nd := docNd, aA := A, acap := cp, kA := none, kcap := 0 }).toArray 58) (sd, 3, 0)
  have r1 := hr1.kp (kp_alloc_paint w1 c1 (.cells (NdC.cells { nd := docNd, aA := A, acap := cp, kA := none, kcap := 0 }).toArray 58) (sd, 5, 0) (sd, 3, 0))
  have b1 := Blk.new w1 c1 (sd, 3, 0) 58 (NdC.cells { nd := docNd, aA := A, acap := cp, kA := none, kcap := 0 })
  generalize hw2 : w1.alloc (.cells (NdC.cells { nd := docNd, aA := A, acap := cp, kA := none, kcap := 0 }).toArray 58) = w2 at *
  have z2 : w2.heap.size = w1.heap.size + 1 := by rw [← hw2]; simp
  generalize paint c1 w1.heap.size (sd, 3, 0) = c2 at *
  have s2 := Mv.alloc_paint (S := fun _ => False) w2 c2 (.cells [.slice (some ⟨w1.heap.size, 0, none⟩) 1 1].toArray 123) (sd, 2, 0)
  have r2 := r1.kp (kp_alloc_paint w2 c2 (.cells [.slice (some ⟨w1.heap.size, 0, none⟩) 1 1].toArray 123) (sd, 5, 0) (sd, 2, 0))
  have b12 := b1.kp (kp_alloc_paint w2 c2 (.cells [.slice (some ⟨w1.heap.size, 0, none⟩) 1 1].toArray 123) _ (sd, 2, 0))
  have b2 := Blk.new w2 c2 (sd, 2, 0) 123 [.slice (some ⟨w1.heap.size, 0, none⟩) 1 1]
  generalize hw3 : w2.alloc (.cells [.slice (some ⟨w1.heap.size, 0, none⟩) 1 1].toArray 123) = w3 at *
  have z3 : w3.heap.size = w1.heap.size + 2 := by rw [← hw3]; simp [z2]
  generalize paint c2 w2.heap.size (sd, 2, 0) = c3 at *
  have s3 := Mv.alloc_paint (S := fun _ => False) w3 c3 (.cells [.pointer (some ⟨w1.heap.size + 1, 0, none⟩), .slice none 0 0].toArray 121) (sd, 6, 0)
  have r3 := r2.kp (kp_alloc_paint w3 c3 (.cells [.pointer (some ⟨w1.heap.size + 1, 0, none⟩), .slice none 0 0].toArray 121) (sd, 5, 0) (sd, 6, 0))
  have b13 := b12.kp (kp_alloc_paint w3 c3 (.cells [.pointer (some ⟨w1.heap.size + 1, 0, none⟩), .slice none 0 0].toArray 121) _ (sd, 6, 0))
  have b23 := b2.kp (kp_alloc_paint w3 c3 (.cells [.pointer (some ⟨w1.heap.size + 1, 0, none⟩), .slice none 0 0].toArray 121) _ (sd, 6, 0))
  have b3 := Blk.new w3 c3 (sd, 6, 0) 121 [.pointer (some ⟨w1.heap.size + 1, 0, none⟩), .slice none 0 0]
  generalize hw4 : w3.alloc (.cells [.pointer (some ⟨w1.heap.size + 1, 0, none⟩), .slice none 0 0].toArray 121) = w4 at *
  have z4 : w4.heap.size = w1.heap.size + 3 := by rw [← hw4]; simp [z3]
  generalize paint c3 w3.heap.size (sd, 6, 0) = c4 at *
  have s4 := Mv.alloc_paint (S := fun _ => False) w4 c4 (.cells [.pointer (some ⟨w1.heap.size + 1, 0, none⟩), .slice none 0 0].toArray 117) (sd, 8, 0)
  have r4 := r3.kp (kp_alloc_paint w4 c4 (.cells [.pointer (some ⟨w1.heap.size + 1, 0, none⟩), .slice none 0 0].toArray 117) (sd, 5, 0) (sd, 8, 0))
  have b14 := b13.kp (kp_alloc_paint w4 c4 (.cells [.pointer (some ⟨w1.heap.size + 1, 0, none⟩), .slice none 0 0].toArray 117) _ (sd, 8, 0))
  have b24 := b23.kp (kp_alloc_paint w4 c4 (.cells [.pointer (some ⟨w1.heap.size + 1, 0, none⟩), .slice none 0 0].toArray 117) _ (sd, 8, 0))
  have b34 := b3.kp (kp_alloc_paint w4 c4 (.cells [.pointer (some ⟨w1.heap.size + 1, 0, none⟩), .slice none 0 0].toArray 117) _ (sd, 8, 0))
  have b4 := Blk.new w4 c4 (sd, 8, 0) 117 [.pointer (some ⟨w1.heap.size + 1, 0, none⟩), .slice none 0 0]
  generalize hw5 : w4.alloc (.cells [.pointer (some ⟨w1.heap.size + 1, 0, none⟩), .slice none 0 0].toArray 117) = w5 at *
  have z5 : w5.heap.size = w1.heap.size + 4 := by rw [← hw5]; simp [z4]
  generalize paint c4 w4.heap.size (sd, 8, 0) = c5 at *
  generalize hbc : bCells ⟨sd, w1.heap.size + 4, w1.heap.size + 1, w1.heap.size + 2, w1.heap.size + 3⟩ ⟨w1.heap.size, 1, [], none, 0, none, 0, none, 0, none⟩ st0 = bc
  have s5 := Mv.alloc_paint (S := fun _ => False) w5 c5 (.cells bc.toArray 36) (sd, 1, 0)
  have r5 := r4.kp (kp_alloc_paint w5 c5 (.cells bc.toArray 36) (sd, 5, 0) (sd, 1, 0))
  have b15 := b14.kp (kp_alloc_paint w5 c5 (.cells bc.toArray 36) _ (sd, 1, 0))
  have b25 := b24.kp (kp_alloc_paint w5 c5 (.cells bc.toArray 36) _ (sd, 1, 0))
  have b35 := b34.kp (kp_alloc_paint w5 c5 (.cells bc.toArray 36) _ (sd, 1, 0))
  have b45 := b4.kp (kp_alloc_paint w5 c5 (.cells bc.toArray 36) _ (sd, 1, 0))
  have b5 := Blk.new w5 c5 (sd, 1, 0) 36 bc
  have hm := hm1.trans (s1.trans (s2.trans (s3.trans (s4.trans s5))))
  refine ⟨_, ⟨⟨w1.heap.size, 1, [{ nd := docNd, aA := A, acap := cp, kA := none, kcap := 0 }], none, 0, none, 0, none, 0, none⟩, ⟨hm.gd hg, hsd, ?_, ?_, ⟨?_, ?_⟩, rfl, ?_, RowOk.none_, ?_, RowOk.none_, RowOk.none_, rfl⟩⟩, hm⟩
  · rw [z5] at b5
    rw [← hbc] at b5 ⊢
    rw [z5]
    exact b5
  · rw [z2] at b25; exact b25
  · refine ⟨rfl, .inr ⟨w1.heap.size, _, rfl, b15.1, b15.2, Nat.le_refl _, by simp [maxLen], rfl, rfl⟩⟩
  · intro i y hy
    rcases i with _ | i
    · simp at hy
      subst hy
      exact ⟨RowOk.none_, r5⟩
    · simp at hy
  · rw [z3] at b35; exact b35
  · rw [z4] at b45; exact b45

set_option maxRecDepth 100000 in
set_option maxHeartbeats 2000000 in
theorem bNew {w : World} {c : Col} (hg : Good w c) {sd : Nat} (hsd : sd ≠ 0) :
    Calls Tryz.prog 50 #[] w fun e w' => ∃ c' h, h.sd = sd ∧ e = .returned (.pointer (some ⟨h.b, 0, none⟩)) ∧ BRep w' c' h st0 ∧ Mv (fun _ => False) w c w' c' := by
  go_enter Tryz.func50, Tryz.ntmps50
  go_wp2_with (first
    | (go_at_call 92; go_in)
    | (go_at_call 93; go_in)
    | (go_at_call 94; go_in)
    | (go_at_call 95; go_in)
    | (go_at_call 119; refine (aBareL _ { nd := { docNd with parent := 0 }, aA := none, acap := 0, kA := none, kcap := 0 } (by decide) ⟨fun _ => rfl, fun _ e => by cases e⟩).mono ?_; rintro e w1 ⟨A1, cp1, rfl, hb1, hr1⟩))
  go_ret
  obtain ⟨c', hB, hM⟩ := newRep (w := w) hg hsd hb1 hr1
  exact ⟨c', _, rfl, rfl, hB, hM⟩
end Go.Proofs.YtjmlkmlbhfkhbaaGreatDoor
