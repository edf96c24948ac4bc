/-
  Arena.Node: a copy of a node.
-/
import Derived.Test.YtjmlkmlbhfkhbaaGreatDoorHp04
import Derived.Deep.RegionWith
import Derived.BigRegion
set_option linter.unusedSimpArgs false
set_option linter.unusedVariables false
namespace Go.Proofs.YtjmlkmlbhfkhbaaGreatDoor
open Go Go.RowKit
set_option maxHeartbeats 2000000 in
theorem aNode {w : World} {a gn cap : Nat} {cs : List NdC} (H : AV w a gn cap cs) {i : Nat} {x : NdC} (hx : cs[i]? = some x)
    (hna : x.nd.attrs.length ≤ 1000000000) (hnk : x.nd.kids.length ≤ 1000000000) (sa : Src w x.aA (attrCells x.nd.attrs)) (sk : Src w x.kA (intCells x.nd.kids)) :
    Calls Tryz.prog 72 #[.pointer (some ⟨a, 0, none⟩), .int .i64 i] w fun e w' => ∃ A c1 K c2, e = .returned (NdC.val { nd := x.nd, aA := A, acap := c1, kA := K, kcap := c2 }) ∧
      Below w.heap.size w w' ∧ RowNew w.heap.size w' 84 2 A x.nd.attrs.length c1 (attrCells x.nd.attrs) ∧ RowNew w.heap.size w' 3 1 K x.nd.kids.length c2 (intCells x.nd.kids) := by
  have hi : i < cs.length := (List.getElem?_eq_some_iff.1 hx).1
  go_enter Tryz.func72, Tryz.ntmps72
  go_wp2_with fail
  refine (aHas (H.loc (below_alloc (Below.refl _ _) _)) i).mono ?_
  rintro e w1 ⟨rfl, rfl⟩
  rw [show (decide ((0 : Int) ≤ (i : Int)) && decide ((i : Int) < cs.length)) = true by simp; omega]
  obtain ⟨b0, b1, b2, b3, b4, b5, b6, b7, b8, b9, b10⟩ := H.node hx
  have a0 := H.1
  have la := block_lt_of_cell a0
  have lg := block_lt_of_cell b0
  have hi0 : (0 : Int) ≤ (i : Int) := by omega
  have hi1 : (i : Int) < cs.length := by omega
  have HX := Lib.hid hx
  clear hx
  dsimp only at la lg
  go_wp2_with fail
  have key : ∀ w2, Below ((w.alloc (.cells zeroNode.toArray 58)).alloc (.cells x.cells.toArray 58)).drew.heap.size ((w.alloc (.cells zeroNode.toArray 58)).alloc (.cells x.cells.toArray 58)).drew w2 → Below w.heap.size w w2 := fun w2 hb =>
    below_step (below_drew (below_alloc (below_alloc (Below.refl _ _) _) _)) hb
  have KEY := Lib.hid key
  clear key b0 b1 b2 b3 b4 b5 b6 b7 b8 b9 b10 a0 la lg H hi0 hi1 hi HX
  go_region_with (first
     | (go_at_call 121; (refine Calls.mono (cloneAttrs' _ x.aA x.acap x.nd.attrs hna (sa.loc (by exact below_drew (below_alloc (below_alloc (Below.refl _ _) _) _)))) ?_; rintro e w2 ⟨A, cp, rfl, hb1, hr1⟩; obtain ⟨hc1, hf1⟩ := bcell hb1; have hz1 := hb1.size; simp only [World.size_alloc, World.size_drew] at hz1; have hz1' : w.heap.size < w2.heap.size := (by omega); have hz1'' : w.heap.size + 1 < w2.heap.size := (by omega); clear hz1))
     | (go_at_call 83; (refine Calls.mono (cloneInts' _ x.kA x.kcap x.nd.kids hnk (sk.loc (by first | exact KEY.out _ hb1 | exact Below.setCell (KEY.out _ hb1) (by dsimp only; omega) _))) ?_; rintro e w3 ⟨K, ck, rfl, hb2, hr2⟩; obtain ⟨hc2, hf2⟩ := bcell hb2)))
  all_goals
    have HZ : ∀ i, w3.cell? ⟨w.heap.size, i, none⟩ = zeroNode[i]? := by
      intro i
      rw [hc2 _ _ (by first | exact hz1' | (simp; done) | (simp; omega))]
      first
        | rw [hc1 _ _ (by simp; omega)]
        | (rw [World.cell?_setCell_other _ _ _ _ (by simp), hc1 _ _ (by simp; omega)])
      exact ((HB.new w 58 zeroNode).alloc _).cell i
    have d0 := HZ 0
    have d1 := HZ 1
    have d2 := HZ 2
    have d3 := HZ 3
    have d4 := HZ 4
    have d5 := HZ 5
    have d6 := HZ 6
    have d7 := HZ 7
    have d8 := HZ 8
    have d9 := HZ 9
    have d10 := HZ 10
    simp only [zeroNode, List.getElem?_cons_zero, List.getElem?_cons_succ] at d0 d1 d2 d3 d4 d5 d6 d7 d8 d9 d10
    clear HZ
    have hb3 := KEY.out _ hb1
    have HB3 : Below w.heap.size w w3 := by
      first
        | exact below_step hb3 hb2
        | exact below_step (Below.setCell hb3 (by dsimp only; omega) _) hb2
    have HB3' := Lib.hid HB3
    have HBS := Lib.hid hb2
    have hz2 : w2.heap.size ≤ w3.heap.size := by
      have := hb2.size
      simpa [World.setCell] using this
    clear HB3 hb2 hb1 hb3
    go_wp2_with fail
    refine bodyPost_ret (v := NdC.val { nd := x.nd, aA := A, acap := cp, kA := K, kcap := ck }) ?_ rfl ?_
    · simp [results, Tryz.results72, go_sem, NdC.val, NdC.cells, d0, d1, d2, d3, d4, d5, d6, d7, d8, d9, d10]
    · refine ⟨A, cp, K, ck, rfl, ?_, ?_, ?_⟩
      · repeat (refine Below.setCell ?_ (by simp) _)
        exact HB3'.out
      · refine RowNew.more (H := w.heap.size + 1 + 1) ?_ (by omega)
        repeat (refine RowNew.setCell ?_ (by dsimp only; omega) _)
        have := HBS.out
        simp only [World.size_alloc, World.size_drew] at hr1
        first
          | exact hr1.below this
          | exact (hr1.setCell (by dsimp only; omega) _).below this
      · refine RowNew.more (H := w2.heap.size) ?_ (by omega)
        repeat (refine RowNew.setCell ?_ (by dsimp only; omega) _)
        simpa [World.setCell] using hr2
end Go.Proofs.YtjmlkmlbhfkhbaaGreatDoor
