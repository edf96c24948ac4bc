/-
  What a store or an append does to the builder's representation: no program in sight.
  slices.Insert of one element at the end.
-/
import Derived.Test.YtjmlkmlbhfkhbaaGreatDoorHp03
set_option linter.unusedSimpArgs false
set_option linter.unusedVariables false
namespace Go.Proofs.YtjmlkmlbhfkhbaaGreatDoor
open Go Go.RowKit

def bareNd (n : Nd) : Nd := { n with parent := -1, content := 0, kids := [] }
def contentNd : Nd := { kind := 6, name := ⟨#[]⟩, text := ⟨#[]⟩, space := 0, attrs := [], dup := false, parent := -1, content := 0, kids := [], frm := -1, to_ := -1 }

theorem news_new (w : World) (cs : List Value) (t : TypeId) : ∀ ad, some (⟨w.heap.size, 0, none⟩ : Addr) = some ad → ∀ j u, cs[j]? = some u → (w.alloc (.cells cs.toArray t)).cell? (ad.add j) = some u := by
  intro ad had j u hu
  obtain rfl := Option.some.inj had
  rw [add_zero_at, (HB.new w t cs).cell j]
  exact hu

theorem NdC.one (x : NdC) : ∀ u ∈ x.cells, u.oneCell' = true := by
  intro u hu
  simp only [NdC.cells, List.mem_cons, List.not_mem_nil, or_false] at hu
  rcases hu with rfl | rfl | rfl | rfl | rfl | rfl | rfl | rfl | rfl | rfl | rfl <;> rfl

/-- The other parts stand when only blocks of some parts have turned. -/
theorem BRepX.others {w w' : World} {c c' : Col} {h : Hd} {x : Sh} {st : St} (H : BRepX w c h x st) (ps : List Nat) (hk : ∀ p i, p ∉ ps → Kp (h.sd, p, i) w c w' c') :
    (1 ∉ ps → Blk w' c' (h.sd, 1, 0) h.b 36 (bCells h x st)) ∧ (2 ∉ ps → Blk w' c' (h.sd, 2, 0) h.a 123 [.slice (some ⟨x.gn, 0, none⟩) x.cs.length x.ncap]) ∧
    (3 ∉ ps → RowOk w' c' (h.sd, 3, 0) 58 11 (some ⟨x.gn, 0, none⟩) x.cs.length x.ncap (x.cs.flatMap NdC.cells)) ∧
    (4 ∉ ps → ∀ i y, x.cs[i]? = some y → RowOk w' c' (h.sd, 4, i) 3 1 y.kA y.nd.kids.length y.kcap (intCells y.nd.kids)) ∧
    (5 ∉ ps → ∀ i y, x.cs[i]? = some y → RowOk w' c' (h.sd, 5, i) 84 2 y.aA y.nd.attrs.length y.acap (attrCells y.nd.attrs)) ∧
    (6 ∉ ps → Blk w' c' (h.sd, 6, 0) h.s 121 [.pointer (some ⟨h.a, 0, none⟩), .slice x.sA st.stk.length x.scap]) ∧
    (7 ∉ ps → RowOk w' c' (h.sd, 7, 0) 133 3 x.sA st.stk.length x.scap (st.stk.flatMap OpE.cells)) ∧
    (8 ∉ ps → Blk w' c' (h.sd, 8, 0) h.l 117 [.pointer (some ⟨h.a, 0, none⟩), .slice x.fA st.fmt.length x.fcap]) ∧
    (9 ∉ ps → RowOk w' c' (h.sd, 9, 0) 3 1 x.fA st.fmt.length x.fcap (intCells st.fmt)) ∧
    (10 ∉ ps → RowOk w' c' (h.sd, 10, 0) 3 1 x.mA st.modes.length x.mcap (intCells st.modes)) ∧
    (11 ∉ ps → match st.ask with
      | none => x.kA = none
      | some (s, n) => ∃ g, x.kA = some ⟨g, 0, none⟩ ∧ Blk w' c' (h.sd, 11, 0) g 92 [.int .i64 s, .string n]) := by
  refine ⟨fun hp => H.hb.kp (hk _ _ hp), fun hp => H.ha.kp (hk _ _ hp), fun hp => H.nodes.row.kp (hk _ _ hp), fun hp i y hy => (H.nodes.each i y hy).1.kp (hk _ _ hp),
    fun hp i y hy => (H.nodes.each i y hy).2.kp (hk _ _ hp), fun hp => H.hs.kp (hk _ _ hp), fun hp => H.stk.kp (hk _ _ hp), fun hp => H.hl.kp (hk _ _ hp), fun hp => H.fmt.kp (hk _ _ hp),
    fun hp => H.modes.kp (hk _ _ hp), fun hp => ?_⟩
  have := H.ask
  cases hs : st.ask with
  | none => rw [hs] at this; exact this
  | some p =>
    rw [hs] at this
    obtain ⟨g, h1, h2⟩ := this
    exact ⟨g, h1, h2.kp (hk _ _ hp)⟩

/-- A node more: its attributes in a new row, its cells appended to the nodes' row, the arena's slice stored. -/
theorem addOne {w w1 w2 : World} {c c2 : Col} {h : Hd} {x : Sh} {st : St} (H : BRepX w c h x st) (y : NdC) (hk : y.nd.kids = []) (hkA : y.kA = none) (hkc : y.kcap = 0)
    (hb : Below w.heap.size w w1) (hr : RowNew w.heap.size w1 84 2 y.aA y.nd.attrs.length y.acap (attrCells y.nd.attrs)) (o : Obj) {A : Option Addr} {cap : Nat}
    (hrow : RowOk w2 c2 (h.sd, 3, 0) 58 11 A (x.cs.length + 1) cap (x.cs.flatMap NdC.cells ++ y.cells)) (hm : Mv (· = (h.sd, 3, 0)) (w1.alloc o) c w2 c2) :
    ∃ c3 x3, BRepX (w2.setCell ⟨h.a, 0, none⟩ (.slice A (x.cs.length + 1) cap)) c3 h x3 { st with ns := st.ns ++ [y.nd] } ∧ Mv (Pr h) w c (w2.setCell ⟨h.a, 0, none⟩ (.slice A (x.cs.length + 1) cap)) c3 ∧ x3.cs = x.cs ++ [y] := by
  have hz : w.heap.size ≤ w1.heap.size := hb.size
  have hz2 : w1.heap.size + 1 ≤ w2.heap.size := by have := hm.size; simpa using this
  have hg1 : Good (w1.alloc o) c := fun g hs => H.gd g (by simp at hs; omega)
  have hg2 : Good w2 c2 := hm.gd hg1
  have hcol : ∀ g, g < w1.heap.size + 1 → c2 g = c g := fun g hg => hm.ext g (by simpa using hg)
  -- the new attributes' row is painted
  obtain ⟨c3, hr3, hc3'⟩ := hr.own c2 (h.sd, 5, x.cs.length)
  have hc3 : ∀ g, g < w.heap.size → c3 g = c g := fun g hg => by
    rcases hc3' with rfl | ⟨g0, h1, h2, rfl, -⟩
    · exact hcol g (by omega)
    · rw [paint_other _ _ (by omega)]; exact hcol g (by omega)
  have hc3s : ∀ g, c2 g = (h.sd, 3, 0) → c3 g = (h.sd, 3, 0) := fun g hg => by
    rcases hc3' with rfl | ⟨g0, h1, h2, rfl, -⟩
    · exact hg
    · rw [paint_other _ _ (by
        rintro rfl
        rw [hcol g (by omega)] at hg
        have := H.gd g h1
        rw [hg] at this
        exact H.sd this)]
      exact hg
  have hc3n : ∀ g, w1.heap.size ≤ g → c3 g = c2 g := fun g hg => by
    rcases hc3' with rfl | ⟨g0, h1, h2, rfl, -⟩
    · rfl
    · exact paint_other _ _ (by omega)
  have ha2 : Blk w2 c2 (h.sd, 2, 0) h.a 123 [.slice (some ⟨x.gn, 0, none⟩) x.cs.length x.ncap] := by
    refine ⟨(hcol _ (by have := H.ha.lt; omega)).trans H.ha.1, ?_⟩
    rw [hm.blk h.a (by have := H.ha.lt; simp; omega) (by rw [H.ha.1]; simp), Below.heap_alloc _ _ _ (by have := H.ha.lt; omega), hb.block _ H.ha.lt]
    exact H.ha.2
  obtain ⟨g', rfl, hcg', hlt', -, -⟩ := hrow.at_ (by omega)
  generalize hw3 : w2.setCell ⟨h.a, 0, none⟩ (.slice (some ⟨g', 0, none⟩) (x.cs.length + 1) cap) = w3
  have hz3 : w3.heap.size = w2.heap.size := by rw [← hw3]; simp [World.setCell]
  have hother : ∀ g, g ≠ h.a → w3.heap[g]? = w2.heap[g]? := fun g hg => by rw [← hw3]; exact heap_setCell_other _ _ _ _ hg
  have hheap : ∀ g, g < w.heap.size → c g ≠ (h.sd, 3, 0) → c g ≠ (h.sd, 2, 0) → w3.heap[g]? = w.heap[g]? := by
    intro g hg h3 h2
    rw [hother g (fun e => h2 (by rw [e]; exact H.ha.1)), hm.blk g (by simp; omega) h3, Below.heap_alloc _ _ _ (by omega)]
    exact hb.block g hg
  have hkp : ∀ p i, p ∉ [2, 3] → Kp (h.sd, p, i) w c w3 c3 := fun p i hp g hg e =>
    ⟨hheap g hg (by rw [e]; simp at hp; simp; omega) (by rw [e]; simp at hp; simp; omega), (hc3 g hg).trans e⟩
  obtain ⟨o1, -, -, o4, o5, o6, o7, o8, o9, o10, o11⟩ := H.others [2, 3] hkp
  have hg3 : Good w3 c3 := by
    intro g hs
    rw [hc3n g (by omega)]
    exact hg2 g (by omega)
  refine ⟨c3, { x with gn := g', ncap := cap, cs := x.cs ++ [y] }, ⟨hg3, H.sd, o1 (by decide), ?_, ⟨?_, ?_⟩, by simp [H.ns], o6 (by decide), o7 (by decide), o8 (by decide), o9 (by decide), o10 (by decide), o11 (by decide)⟩, ?_, rfl⟩
  · have := ha2.set_ 0 (.slice (some ⟨g', 0, none⟩) (x.cs.length + 1) cap)
    rw [hw3] at this
    exact ⟨by rw [hc3 _ H.ha.lt]; exact H.ha.1, by simpa using this.2⟩
  · have h1 : RowOk w3 c3 (h.sd, 3, 0) 58 11 (some ⟨g', 0, none⟩) (x.cs.length + 1) cap (x.cs.flatMap NdC.cells ++ y.cells) :=
      hrow.kp fun g _ e => ⟨hother g (fun e' => by rw [e', ha2.1] at e; simp at e), hc3s g e⟩
    simpa using h1
  · intro i z hz'
    rw [List.getElem?_append] at hz'
    split at hz'
    · exact ⟨o4 (by decide) i z hz', o5 (by decide) i z hz'⟩
    · rename_i hi
      have hi' : i = x.cs.length := by
        have := (List.getElem?_eq_some_iff.1 hz').1
        simp at this
        omega
      subst hi'
      simp at hz'
      subst hz'
      refine ⟨?_, ?_⟩
      · rw [hk, hkA, hkc]; exact RowOk.none_
      · refine hr3.kp fun g hg e => ⟨?_, e⟩
        rcases hc3' with rfl | ⟨g0, h1, h2, rfl, cur, hcur⟩
        · -- no block is painted: no block of w1 has that colour but it may not be asked
          by_cases hgw : g < w.heap.size
          · rw [hcol g (by omega)] at e
            rw [hheap g hgw (by rw [e]; simp) (by rw [e]; simp)]
            exact (hb.block g hgw).symm
          · have := H.gd g (by omega)
            rw [hcol g (by omega)] at e
            rw [e] at this
            exact absurd this H.sd
        · by_cases hgg : g = g0
          · subst hgg
            have hca : c g ≠ (h.sd, 3, 0) := fun e' => by
              have := H.gd g h1
              rw [e'] at this
              exact H.sd this
            rw [hother g (by have := H.ha.lt; omega), hm.blk g (by simp; omega) hca, Below.heap_alloc _ _ _ h2]
          · rw [paint_other _ _ hgg] at e
            by_cases hgw : g < w.heap.size
            · rw [hcol g (by omega)] at e
              rw [hheap g hgw (by rw [e]; simp) (by rw [e]; simp)]
              exact (hb.block g hgw).symm
            · have := H.gd g (by omega)
              rw [hcol g (by omega)] at e
              rw [e] at this
              exact absurd this H.sd
  · refine ⟨?_, ?_, ?_, by omega, hc3, fun g hg hs => hheap g hg (fun e => hs (by unfold Pr; rw [e])) (fun e => hs (by unfold Pr; rw [e])), fun _ => hg3⟩
    · rw [← hw3]; exact hm.os.trans hb.os
    · rw [← hw3]; exact hm.tape.trans hb.tape
    · rw [← hw3]; exact hm.output.trans hb.output

theorem flat_len (cs : List NdC) : (cs.flatMap NdC.cells).length = cs.length * 11 := by
  induction cs with
  | nil => rfl
  | cons y cs ih => rw [List.flatMap_cons, List.length_append, ih, NdC.cells_len, List.length_cons]; omega

theorem flat_set : ∀ (cs : List NdC) (i j : Nat) (y y' : NdC) (v : Value), cs[i]? = some y → j < 11 → y'.cells = y.cells.set j v →
    (cs.flatMap NdC.cells).set (i * 11 + j) v = (cs.set i y').flatMap NdC.cells
  | [], i, j, y, y', v, hy, hj, hc => by simp at hy
  | z :: cs, 0, j, y, y', v, hy, hj, hc => by
    simp at hy
    subst hy
    rw [List.flatMap_cons, List.set_cons_zero, List.flatMap_cons, List.set_append_left _ _ (by rw [NdC.cells_len]; omega), hc]
    simp
  | z :: cs, i + 1, j, y, y', v, hy, hj, hc => by
    rw [List.flatMap_cons, List.set_cons_succ, List.flatMap_cons, List.set_append_right _ _ (by rw [NdC.cells_len]; omega), NdC.cells_len,
      ← flat_set cs i j y y' v (by simpa using hy) hj hc]
    congr 2
    omega

/-- One plain cell of a node is stored. -/
theorem setNode {w : World} {c : Col} {h : Hd} {x : Sh} {st : St} (H : BRepX w c h x st) {i j : Nat} {y y' : NdC} {v : Value} (hy : x.cs[i]? = some y) (hj : j < 11) (hc : y'.cells = y.cells.set j v)
    (r1 : y'.kA = y.kA ∧ y'.kcap = y.kcap ∧ y'.nd.kids = y.nd.kids) (r2 : y'.aA = y.aA ∧ y'.acap = y.acap ∧ y'.nd.attrs = y.nd.attrs) :
    BRepX (w.setCell ⟨x.gn, i * 11 + j, none⟩ v) c h { x with cs := x.cs.set i y' } { st with ns := st.ns.set i y'.nd } ∧ Mv (Pr h) w c (w.setCell ⟨x.gn, i * 11 + j, none⟩ v) c := by
  have hi : i < x.cs.length := (List.getElem?_eq_some_iff.1 hy).1
  obtain ⟨g', hg', hcg, hlt, -, -⟩ := H.nodes.row.at_ (by omega)
  simp only [Option.some.injEq, Addr.mk.injEq, and_true] at hg'
  rw [← hg'] at hcg
  have hk : ∀ p i', p ∉ [3] → Kp (h.sd, p, i') w c (w.setCell ⟨x.gn, i * 11 + j, none⟩ v) c := fun p i' hp => kp_setCell (by rw [hcg]; simp at hp; simp; omega) v
  obtain ⟨o1, o2, -, o4, o5, o6, o7, o8, o9, o10, o11⟩ := H.others [3] hk
  refine ⟨⟨fun g hs => H.gd g (by simpa [World.setCell] using hs), H.sd, o1 (by decide), by simpa using o2 (by decide), ⟨?_, ?_⟩, by simp [← H.ns, List.map_set], o6 (by decide), o7 (by decide), o8 (by decide), o9 (by decide), o10 (by decide), o11 (by decide)⟩,
    Mv.setCell (show (c x.gn).1 = h.sd by rw [hcg]) v⟩
  · have := H.nodes.row.set_ (j := i * 11 + j) (by rw [flat_len]; omega) v
    rw [flat_set x.cs i j y y' v hy hj hc] at this
    simpa using this
  · intro i' z hz
    simp only [List.getElem?_set] at hz
    split at hz
    · rename_i he
      subst he
      obtain rfl := Option.some.inj hz
      refine ⟨?_, ?_⟩
      · have := o4 (by decide) i y hy
        rw [r1.1, r1.2.1, r1.2.2]; exact this
      · have := o5 (by decide) i y hy
        rw [r2.1, r2.2.1, r2.2.2]; exact this
    · exact ⟨o4 (by decide) i' z hz, o5 (by decide) i' z hz⟩

theorem Mv.pr {h : Hd} {w w' : World} {c c' : Col} {p i : Nat} (hm : Mv (· = (h.sd, p, i)) w c w' c') : Mv (Pr h) w c w' c' := hm.mono fun k e => by unfold Pr; rw [e]

theorem bcell {W w1 : World} (hb : Below W.heap.size W w1) : (∀ b o, b < W.heap.size → w1.cell? ⟨b, o, none⟩ = W.cell? ⟨b, o, none⟩) ∧ (∀ b o, b < W.heap.size → w1.frozen? ⟨b, o, none⟩ = W.frozen? ⟨b, o, none⟩) :=
  ⟨fun b o h => hb.cell (p := ⟨b, o, none⟩) h, fun b o h => hb.frozen (p := ⟨b, o, none⟩) h⟩

theorem toList_mk (l : List UInt8) : (ByteArray.mk l.toArray).toList = l := by simp
theorem HB.mvk {S : Key → Prop} {w w' : World} {c c' : Col} {g : Nat} {t : TypeId} {cs : List Value} (H : HB w g t cs) (hm : Mv S w c w' c') (hs : ¬ S (c g)) : HB w' g t cs := (hm.blk g H.lt hs).trans H

/-- What an append to the nodes' row leaves for the store behind it. -/
theorem appNodes {w w1 w2 : World} {c c2 : Col} {h : Hd} {x : Sh} {st : St} (H : BRepX w c h x st) (hb : Below w.heap.size w w1) (hm : Mv (· = (h.sd, 3, 0)) w1 c w2 c2) :
    w2.cell? ⟨h.a, 0, none⟩ = some (.slice (some ⟨x.gn, 0, none⟩) x.cs.length x.ncap) ∧ w2.frozen? ⟨h.a, 0, none⟩ = false ∧ h.a < w2.heap.size := by
  have h1 : Blk w1 c (h.sd, 2, 0) h.a 123 _ := H.ha.kp (kp_below hb)
  have h2 := h1.kp (hm.kp (k := (h.sd, 2, 0)) (by simp))
  exact ⟨h2.cell 0, h2.frozen 0, h2.lt⟩

theorem aBareL (w : World) (x : NdC) (hn : x.nd.attrs.length ≤ 1000000000) (hs : Src w x.aA (attrCells x.nd.attrs)) :
    Calls Tryz.prog 119 #[x.val] w fun e w' => ∃ A' cap', e = .returned (.agg #[.int .i64 x.nd.kind, .string x.nd.name, .string x.nd.text, .int .i64 x.nd.space, .slice A' x.nd.attrs.length cap', .bool x.nd.dup,
      .int .i64 (-1), .int .i64 0, .slice none 0 0, .int .i64 x.nd.frm, .int .i64 x.nd.to_]) ∧
      Below w.heap.size w w' ∧ RowNew w.heap.size w' 84 2 A' x.nd.attrs.length cap' (attrCells x.nd.attrs) := aBare w x hn (fun e => attrCells_nil (hs.1 e)) hs.2


/-- A node's kids are others: their row has been appended to, the slice is stored. -/
theorem setKids {w w1 w2 : World} {c c2 : Col} {h : Hd} {x : Sh} {st : St} (H : BRepX w c h x st) {p : Nat} {y : NdC} (hy : x.cs[p]? = some y) (hb : Below w.heap.size w w1)
    {A : Option Addr} {cap : Nat} {ks : List Int} (hrow : RowOk w2 c2 (h.sd, 4, p) 3 1 A ks.length cap (intCells ks)) (hm : Mv (· = (h.sd, 4, p)) w1 c w2 c2) :
    BRepX (w2.setCell ⟨x.gn, p * 11 + 8, none⟩ (.slice A ks.length cap)) c2 h { x with cs := x.cs.set p { y with nd := { y.nd with kids := ks }, kA := A, kcap := cap } }
      { st with ns := st.ns.set p { y.nd with kids := ks } } ∧ Mv (Pr h) w c (w2.setCell ⟨x.gn, p * 11 + 8, none⟩ (.slice A ks.length cap)) c2 := by
  have hi : p < x.cs.length := (List.getElem?_eq_some_iff.1 hy).1
  have hm0 : Mv (· = (h.sd, 4, p)) w c w2 c2 := (Mv.of_below hb).trans hm
  have hg2 : Good w2 c2 := hm0.gd H.gd
  have hrow3 : RowOk w2 c2 (h.sd, 3, 0) 58 11 (some ⟨x.gn, 0, none⟩) x.cs.length x.ncap (x.cs.flatMap NdC.cells) := H.nodes.row.kp (hm0.kp (by simp))
  obtain ⟨g', hg', hcg, hlt, -, -⟩ := hrow3.at_ (by omega)
  simp only [Option.some.injEq, Addr.mk.injEq, and_true] at hg'
  rw [← hg'] at hcg
  generalize hw3 : w2.setCell ⟨x.gn, p * 11 + 8, none⟩ (.slice A ks.length cap) = w3
  have hz3 : w3.heap.size = w2.heap.size := by rw [← hw3]; simp [World.setCell]
  have hst : ∀ k, k ≠ (h.sd, 3, 0) → Kp k w2 c2 w3 c2 := fun k hk => by rw [← hw3]; exact kp_setCell (by rw [hcg]; exact fun e => hk e.symm) _
  have hkp : ∀ k, k ≠ (h.sd, 4, p) → k ≠ (h.sd, 3, 0) → Kp k w c w3 c2 := fun k h4 h3 => (hm0.kp (S := (· = (h.sd, 4, p))) h4).trans hm0.size (hst k h3)
  have hk : ∀ q i', q ∉ [3, 4] → Kp (h.sd, q, i') w c w3 c2 := fun q i' hq => hkp _ (by simp at hq; simp; omega) (by simp at hq; simp; omega)
  obtain ⟨o1, o2, -, -, o5, o6, o7, o8, o9, o10, o11⟩ := H.others [3, 4] hk
  have hg3 : Good w3 c2 := fun g hs => hg2 g (by omega)
  refine ⟨⟨hg3, H.sd, o1 (by decide), by simpa using o2 (by decide), ⟨?_, ?_⟩, by simp [← H.ns, List.map_set], o6 (by decide), o7 (by decide), o8 (by decide), o9 (by decide), o10 (by decide), o11 (by decide)⟩, ?_⟩
  · have := hrow3.set_ (j := p * 11 + 8) (by rw [flat_len]; omega) (.slice A ks.length cap)
    rw [flat_set x.cs p 8 y { y with nd := { y.nd with kids := ks }, kA := A, kcap := cap } _ hy (by omega) rfl, hw3] at this
    simpa using this
  · intro i' z hz
    simp only [List.getElem?_set] at hz
    split at hz
    · rename_i he
      subst he
      obtain rfl := Option.some.inj hz
      exact ⟨hrow.kp (hst _ (by simp)), o5 (by decide) p y hy⟩
    · rename_i he
      refine ⟨(H.nodes.each i' z hz).1.kp (hkp _ (by simp; omega) (by simp)), o5 (by decide) i' z hz⟩
  · refine ⟨?_, ?_, ?_, by have := hm0.size; omega, hm0.ext, fun g hg hs => ?_, fun _ => hg3⟩
    · rw [← hw3]; exact hm0.os
    · rw [← hw3]; exact hm0.tape
    · rw [← hw3]; exact hm0.output
    · have hne : g ≠ x.gn := fun e => hs (by
        rw [← hm0.ext g hg, e, hcg]; rfl)
      rw [← hw3, heap_setCell_other _ _ _ _ hne]
      exact hm0.blk g hg (fun e => hs (by rw [e]; rfl))

/-- A node's attributes are more: their row has been appended to, the slice is stored. -/
theorem setAttrs {w w1 w2 : World} {c c2 : Col} {h : Hd} {x : Sh} {st : St} (H : BRepX w c h x st) {p : Nat} {y : NdC} (hy : x.cs[p]? = some y) (hb : Below w.heap.size w w1)
    {A : Option Addr} {cap : Nat} {ks : List At} (hrow : RowOk w2 c2 (h.sd, 5, p) 84 2 A ks.length cap (attrCells ks)) (hm : Mv (· = (h.sd, 5, p)) w1 c w2 c2) :
    BRepX (w2.setCell ⟨x.gn, p * 11 + 4, none⟩ (.slice A ks.length cap)) c2 h { x with cs := x.cs.set p { y with nd := { y.nd with attrs := ks }, aA := A, acap := cap } }
      { st with ns := st.ns.set p { y.nd with attrs := ks } } ∧ Mv (Pr h) w c (w2.setCell ⟨x.gn, p * 11 + 4, none⟩ (.slice A ks.length cap)) c2 := by
  have hi : p < x.cs.length := (List.getElem?_eq_some_iff.1 hy).1
  have hm0 : Mv (· = (h.sd, 5, p)) w c w2 c2 := (Mv.of_below hb).trans hm
  have hg2 : Good w2 c2 := hm0.gd H.gd
  have hrow3 : RowOk w2 c2 (h.sd, 3, 0) 58 11 (some ⟨x.gn, 0, none⟩) x.cs.length x.ncap (x.cs.flatMap NdC.cells) := H.nodes.row.kp (hm0.kp (by simp))
  obtain ⟨g', hg', hcg, hlt, -, -⟩ := hrow3.at_ (by omega)
  simp only [Option.some.injEq, Addr.mk.injEq, and_true] at hg'
  rw [← hg'] at hcg
  generalize hw3 : w2.setCell ⟨x.gn, p * 11 + 4, none⟩ (.slice A ks.length cap) = w3
  have hz3 : w3.heap.size = w2.heap.size := by rw [← hw3]; simp [World.setCell]
  have hst : ∀ k, k ≠ (h.sd, 3, 0) → Kp k w2 c2 w3 c2 := fun k hk => by rw [← hw3]; exact kp_setCell (by rw [hcg]; exact fun e => hk e.symm) _
  have hkp : ∀ k, k ≠ (h.sd, 5, p) → k ≠ (h.sd, 3, 0) → Kp k w c w3 c2 := fun k h4 h3 => (hm0.kp (S := (· = (h.sd, 5, p))) h4).trans hm0.size (hst k h3)
  have hk : ∀ q i', q ∉ [3, 5] → Kp (h.sd, q, i') w c w3 c2 := fun q i' hq => hkp _ (by simp at hq; simp; omega) (by simp at hq; simp; omega)
  obtain ⟨o1, o2, -, o4, -, o6, o7, o8, o9, o10, o11⟩ := H.others [3, 5] hk
  have hg3 : Good w3 c2 := fun g hs => hg2 g (by omega)
  refine ⟨⟨hg3, H.sd, o1 (by decide), by simpa using o2 (by decide), ⟨?_, ?_⟩, by simp [← H.ns, List.map_set], o6 (by decide), o7 (by decide), o8 (by decide), o9 (by decide), o10 (by decide), o11 (by decide)⟩, ?_⟩
  · have := hrow3.set_ (j := p * 11 + 4) (by rw [flat_len]; omega) (.slice A ks.length cap)
    rw [flat_set x.cs p 4 y { y with nd := { y.nd with attrs := ks }, aA := A, acap := cap } _ hy (by omega) rfl, hw3] at this
    simpa using this
  · intro i' z hz
    simp only [List.getElem?_set] at hz
    split at hz
    · rename_i he
      subst he
      obtain rfl := Option.some.inj hz
      exact ⟨o4 (by decide) p y hy, hrow.kp (hst _ (by simp))⟩
    · rename_i he
      refine ⟨o4 (by decide) i' z hz, (H.nodes.each i' z hz).2.kp (hkp _ (by simp; omega) (by simp))⟩
  · refine ⟨?_, ?_, ?_, by have := hm0.size; omega, hm0.ext, fun g hg hs => ?_, fun _ => hg3⟩
    · rw [← hw3]; exact hm0.os
    · rw [← hw3]; exact hm0.tape
    · rw [← hw3]; exact hm0.output
    · have hne : g ≠ x.gn := fun e => hs (by
        rw [← hm0.ext g hg, e, hcg]; rfl)
      rw [← hw3, heap_setCell_other _ _ _ _ hne]
      exact hm0.blk g hg (fun e => hs (by rw [e]; rfl))

end Go.Proofs.YtjmlkmlbhfkhbaaGreatDoor
namespace Go.Proofs.YtjmlkmlbhfkhbaaGreatDoor
open Go Go.RowKit

theorem OpE.one (x : OpE) : ∀ u ∈ x.cells, u.oneCell' = true := by
  intro u hu
  simp only [OpE.cells, List.mem_cons, List.not_mem_nil, or_false] at hu
  rcases hu with rfl | rfl | rfl <;> rfl

theorem HB.news {w : World} {g : Nat} {t : TypeId} {cs : List Value} (H : HB w g t cs) : ∀ ad, some (⟨g, 0, none⟩ : Addr) = some ad → ∀ j u, cs[j]? = some u → w.cell? (ad.add j) = some u := by
  intro ad had j u hu
  obtain rfl := Option.some.inj had
  rw [add_zero_at, H.cell j]
  exact hu

theorem RowOk.none_len {w : World} {c : Col} {k : Key} {e : TypeId} {size : Nat} {n cap : Nat} {xs : List Value} (h : RowOk w c k e size none n cap xs) : n = 0 ∧ cap = 0 := by
  rcases h.2 with h0 | ⟨g, cur, hA, _⟩
  · exact h0
  · cases hA

set_option maxRecDepth 100000 in
set_option maxHeartbeats 1000000 in
theorem insOpen {w : World} {c : Col} {k : Key} {A : Option Addr} {n cap : Nat} {xs : List Value} (hrow : RowOk w c k 133 3 A n cap xs) (x : OpE) {g : Nat} (hg : HB w g 133 (x.cells)) (hn : n ≤ 1000000) :
    Calls Tryz.prog 169 #[.slice A n cap, .int .i64 n, .slice (some ⟨g, 0, none⟩) 1 1] w fun e w' => ∃ A' cap' c', e = .returned (.slice A' (n + 1) cap') ∧ RowOk w' c' k 133 3 A' (n + 1) cap' (xs ++ x.cells) ∧ Mv (· = k) w c w' c' := by
  obtain ⟨i0, hi0, hz0, hz1, hz2⟩ := info_parts info133
  have hle := hrow.le
  have hmx := hrow.capMax
  unfold maxLen at hmx
  have h0 : (0 : Int) ≤ (n : Int) := by omega
  have h1 : (n : Int) ≤ (cap : Int) := by omega
  cases A with
  | none =>
    obtain ⟨rfl, rfl⟩ := hrow.none_len
    go_enter Tryz.func169, Tryz.ntmps169
    go_wp2_with (at_builtin; refine wpList_append_row _ c k rfl (.tmp 23) (.tmp 24) 119 rfl 133 i0 _ 3 32 Tryz.underlying119 hi0 hz0 hz1 hz2 rfl (by decide) _ _ _ _ rfl hrow _ 1 1 (x.cells) rfl (by rfl) (by simp) hg.news (OpE.one x) (by unfold maxLen; omega) (by omega) ?_)
    intro A2 cp2 w2 c2 hrow2 hmv2
    go_wp2_with fail
    go_ret
    exact ⟨A2, cp2, c2, rfl, hrow2, hmv2⟩
  | some ad =>
    go_enter Tryz.func169, Tryz.ntmps169
    go_wp2_with (at_builtin; refine wpList_append_row _ c k rfl (.tmp 23) (.tmp 24) 119 rfl 133 i0 _ 3 32 Tryz.underlying119 hi0 hz0 hz1 hz2 rfl (by decide) _ _ _ _ rfl hrow _ 1 1 (x.cells) rfl (by rfl) (by simp) hg.news (OpE.one x) (by unfold maxLen; omega) (by omega) ?_)
    all_goals
      intro A2 cp2 w2 c2 hrow2 hmv2
      go_wp2_with fail
      go_ret
      exact ⟨A2, cp2, c2, rfl, hrow2, hmv2⟩

set_option maxRecDepth 100000 in
set_option maxHeartbeats 1000000 in
theorem insInt {w : World} {c : Col} {k : Key} {A : Option Addr} {n cap : Nat} {xs : List Value} (hrow : RowOk w c k 3 1 A n cap xs) (x : Int) {g : Nat} (hg : HB w g 3 ([.int .i64 x])) (hn : n ≤ 1000000) :
    Calls Tryz.prog 157 #[.slice A n cap, .int .i64 n, .slice (some ⟨g, 0, none⟩) 1 1] w fun e w' => ∃ A' cap' c', e = .returned (.slice A' (n + 1) cap') ∧ RowOk w' c' k 3 1 A' (n + 1) cap' (xs ++ [.int .i64 x]) ∧ Mv (· = k) w c w' c' := by
  obtain ⟨i0, hi0, hz0, hz1, hz2⟩ := info_parts info3
  have hle := hrow.le
  have hmx := hrow.capMax
  unfold maxLen at hmx
  have h0 : (0 : Int) ≤ (n : Int) := by omega
  have h1 : (n : Int) ≤ (cap : Int) := by omega
  cases A with
  | none =>
    obtain ⟨rfl, rfl⟩ := hrow.none_len
    go_enter Tryz.func157, Tryz.ntmps157
    go_wp2_with (at_builtin; refine wpList_append_row _ c k rfl (.tmp 23) (.tmp 24) 31 rfl 3 i0 _ 1 8 Tryz.underlying31 hi0 hz0 hz1 hz2 rfl (by decide) _ _ _ _ rfl hrow _ 1 1 ([.int .i64 x]) rfl (by rfl) (by simp) hg.news (by simp [Value.oneCell']) (by unfold maxLen; omega) (by omega) ?_)
    intro A2 cp2 w2 c2 hrow2 hmv2
    go_wp2_with fail
    go_ret
    exact ⟨A2, cp2, c2, rfl, hrow2, hmv2⟩
  | some ad =>
    go_enter Tryz.func157, Tryz.ntmps157
    go_wp2_with (at_builtin; refine wpList_append_row _ c k rfl (.tmp 23) (.tmp 24) 31 rfl 3 i0 _ 1 8 Tryz.underlying31 hi0 hz0 hz1 hz2 rfl (by decide) _ _ _ _ rfl hrow _ 1 1 ([.int .i64 x]) rfl (by rfl) (by simp) hg.news (by simp [Value.oneCell']) (by unfold maxLen; omega) (by omega) ?_)
    all_goals
      intro A2 cp2 w2 c2 hrow2 hmv2
      go_wp2_with fail
      go_ret
      exact ⟨A2, cp2, c2, rfl, hrow2, hmv2⟩

end Go.Proofs.YtjmlkmlbhfkhbaaGreatDoor
