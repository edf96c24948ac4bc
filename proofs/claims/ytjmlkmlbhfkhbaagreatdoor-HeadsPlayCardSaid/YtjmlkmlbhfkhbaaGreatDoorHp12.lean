/-
  The builder's Ask (29) where something is asked; Current (42) and Is (43).
-/
import Derived.Test.YtjmlkmlbhfkhbaaGreatDoorHp11
import Derived.Test.YtjmlkmlbhfkhbaaGreatDoorHp10
set_option linter.unusedSimpArgs false
set_option linter.unusedVariables false
namespace Go.Proofs.YtjmlkmlbhfkhbaaGreatDoor
open Go Go.RowKit

theorem clearAsk {w : World} {c : Col} {h : Hd} {x : Sh} {st : St} (H : BRepX w c h x st) :
    BRepX (w.setCell ⟨h.b, 12, none⟩ (.pointer none)) c h { x with kA := none } { st with ask := none } ∧ Mv (Pr h) w c (w.setCell ⟨h.b, 12, none⟩ (.pointer none)) c := by
  have k2 : ∀ p i, p ≠ 1 → Kp (h.sd, p, i) w c (w.setCell ⟨h.b, 12, none⟩ (.pointer none)) c := fun p i hp => kp_setCell (by rw [H.hb.1]; simp; omega) _
  have s2 : Mv (Pr h) w c (w.setCell ⟨h.b, 12, none⟩ (.pointer none)) c := Mv.setCell (show (c h.b).1 = h.sd by rw [H.hb.1]) _
  refine ⟨⟨s2.gd H.gd, H.sd, H.hb.set_ 12 _, H.ha.kp (k2 _ _ (by decide)), ?_, H.ns, H.hs.kp (k2 _ _ (by decide)), H.stk.kp (k2 _ _ (by decide)), H.hl.kp (k2 _ _ (by decide)), H.fmt.kp (k2 _ _ (by decide)), H.modes.kp (k2 _ _ (by decide)), rfl⟩, s2⟩
  exact ⟨H.nodes.row.kp (k2 _ _ (by decide)), fun i y hy => ⟨(H.nodes.each i y hy).1.kp (k2 _ _ (by decide)), (H.nodes.each i y hy).2.kp (k2 _ _ (by decide))⟩⟩

set_option maxRecDepth 100000 in
set_option maxHeartbeats 4000000 in
theorem bAsk {w : World} {c : Col} {h : Hd} {st : St} (H : BRep w c h st) {s : Int} {n : Str} (ha : st.ask = some (s, n)) :
    Calls Tryz.prog 29 #[.pointer (some ⟨h.b, 0, none⟩)] w (OkB h { st with ask := none } (.tuple #[.int .i64 s, .string n, .bool true]) w c) := by
  have N1 := Lib.hid (bNone H)
  obtain ⟨X, H⟩ := H
  have q := H.ask
  rw [ha] at q
  obtain ⟨g, hg, hb⟩ := q
  have c12 := H.bc.2.2.2.2.2.2.2.2.2.2.2.2.1
  have f12 := H.hb.frozen 12
  have hlb := H.hb.lt
  rw [hg] at c12
  have g0 := hb.cell 0
  have g1 := hb.cell 1
  have hb1 : Below w.heap.size w (w.alloc (.cells #[.int .i64 s, .string n] 92)) := below_alloc (Below.refl _ _) _
  have CA := Lib.hid (clearAsk (H.kp (fun p i => kp_below hb1) ((Mv.of_below (S := fun _ => False) hb1).gd H.gd)))
  have hcm := setCell_alloc w (.cells #[.int .i64 s, .string n] 92) ⟨h.b, 12, none⟩ (.pointer none) hlb
  rw [hcm] at CA
  have M1 : Hid (Mv (Pr h) w c (w.alloc (.cells #[.int .i64 s, .string n] 92)) c) := Lib.hid (Mv.of_below hb1)
  clear H ha hg hb hb1 hcm
  go_enter Tryz.func29, Tryz.ntmps29
  go_wp2_with (go_at_call 63; refine N1.out.mono ?_; rintro e w1 ⟨rfl, rfl⟩)
  go_region
  all_goals
    go_wp2_with fail
    refine bodyPost_ret (v := .tuple #[.int .i64 s, .string n, .bool true]) (by simp [results, Tryz.results29, go_sem]) rfl ?_
    exact ⟨rfl, c, (show BRep _ c h _ from ⟨_, CA.out.1⟩).loc (below_drew (Below.refl _ _)), (M1.out.trans CA.out.2).drew⟩

set_option maxRecDepth 100000 in
set_option maxHeartbeats 4000000 in
/-- The current node. -/
theorem bCurrent {w : World} {c : Col} {h : Hd} {st : St} (H : BRep w c h st) {N : Nat} (hs : Sz N st) (hN : N ≤ 10000000) (hl : st.stk.length ≤ 1000000) {i : Nat} {n : Nd} (ht : topOf st.stk = (i : Int)) (hi : st.ns[i]? = some n) :
    Calls Tryz.prog 42 #[.pointer (some ⟨h.b, 0, none⟩)] w fun e w' => ∃ A c1 K c2, e = .returned (ndVal n A c1 K c2) ∧ Below w.heap.size w w' := by
  have hb0 : Below w.heap.size w (w.alloc (.cells zeroNode.toArray 58)) := below_alloc (Below.refl _ _) _
  have N1 := Lib.hid (bNone (H.loc hb0))
  have TP := Lib.hid (fun (W : World) (hW : Below w.heap.size w W) => sTop ((H.loc hW).choose_spec.sv hl))
  rw [ht] at TP
  have ND := Lib.hid (fun (W : World) (hW : Below w.heap.size w W) => aNodeB (H.loc hW) hs (by omega) hi)
  have PT := Lib.hid (fun (W : World) (hW : Below w.heap.size w W) => (H.loc hW).ptrs)
  have B0 := Lib.hid (fun (W : World) (hW : Below (w.alloc (.cells zeroNode.toArray 58)).heap.size (w.alloc (.cells zeroNode.toArray 58)) W) => (HB.new w 58 zeroNode).below hW)
  clear H hs ht hi
  unfold zeroNode at *
  go_enter Tryz.func42, Tryz.ntmps42
  go_upto_region 3 with (go_at_call 63; refine N1.out.mono ?_; rintro e w1 ⟨rfl, rfl⟩)
  obtain ⟨q0, q1, q2⟩ := PT.out _ hb0
  go_region_law (first
    | (go_simp; go_at_call 85; (refine (TP.out _ (below_drew hb0)).mono ?_; rintro e w2 ⟨rfl, rfl⟩))
    | (go_simp; go_at_call 72; (refine (ND.out _ (below_drew hb0)).mono ?_; rintro e w2 ⟨A, c1, K, c2, rfl, hb2, -, -⟩; have HB2 := B0.out _ (below_step (below_drew (Below.refl _ _)) hb2); have f2 := HB2.frozen; have z2 := HB2.lt; obtain ⟨d0, d1, d2, d3, d4, d5, d6, d7, d8, d9, d10⟩ := (show HB w2 w.heap.size 58 (NdC.cells { nd := { kind := 0, name := ⟨#[]⟩, text := ⟨#[]⟩, space := 0, attrs := [], dup := false, parent := 0, content := 0, kids := [], frm := 0, to_ := 0 }, aA := none, acap := 0, kA := none, kcap := 0 }) from HB2).node; unfold ndVal)))
  all_goals
    go_wp2_with fail
    refine bodyPost_ret (v := ndVal n A c1 K c2) ?_ rfl ?_
    · simp [results, Tryz.results42, go_sem, ndVal, d0, d1, d2, d3, d4, d5, d6, d7, d8, d9, d10, z2]
    · refine ⟨⟨A, c1, K, c2, rfl⟩, ?_⟩
      have hB : Below w.heap.size w w2 := below_step (below_drew hb0) hb2
      repeat (refine Below.setCell ?_ (by simp) _)
      exact hB

set_option maxHeartbeats 1000000 in
/-- Is, of the current node. -/
theorem bIs {w : World} {c : Col} {h : Hd} {st : St} (H : BRep w c h st) {N : Nat} (hs : Sz N st) (hN : N ≤ 10000000) (hl : st.stk.length ≤ 1000000) {i : Nat} {n : Nd} (ht : topOf st.stk = (i : Int)) (hi : st.ns[i]? = some n) (g cap : Nat) (names : List Str) (hlen : names.length ≤ 1000) (hS : Strs w g names) :
    Calls Tryz.prog 43 #[.pointer (some ⟨h.b, 0, none⟩), .slice (some ⟨g, 0, none⟩) names.length cap] w fun e w' => e = .returned (.bool (htmlN n names)) ∧ Below w.heap.size w w' := by
  have CU := Lib.hid (bCurrent H hs hN hl ht hi)
  have HT := Lib.hid (fun (W : World) (hb : Below w.heap.size w W) A c1 K c2 => bHtml W n A c1 K c2 g cap names hlen (hS.below hb))
  clear H hs ht hi hS
  go_enter Tryz.func43, Tryz.ntmps43
  go_wp2_with fail
  refine CU.out.mono ?_
  rintro e w1 ⟨A, c1, K, c2, rfl, hb1⟩
  go_wp2_with fail
  refine (HT.out _ hb1 A c1 K c2).mono ?_
  rintro e w2 ⟨rfl, hb2⟩
  go_wp2_with fail
  go_ret
  exact ⟨rfl, below_step hb1 hb2⟩
end Go.Proofs.YtjmlkmlbhfkhbaaGreatDoor
