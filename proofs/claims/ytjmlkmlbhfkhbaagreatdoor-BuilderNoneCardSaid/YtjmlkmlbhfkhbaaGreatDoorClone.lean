/-
  slices.Clone at attributes and at numbers; the program's closed facts on element types.
-/
import Derived.Test.YtjmlkmlbhfkhbaaGreatDoorToks2
namespace Go.Proofs.YtjmlkmlbhfkhbaaGreatDoor
open Go Go.RowKit

theorem info3 : (Tryz.prog.info? 3).map (fun i => (i.zero, i.size, i.bytes)) = some (some (.int .i64 0), 1, 8) := by kernel_rfl
theorem info84 : (Tryz.prog.info? 84).map (fun i => (i.zero, i.size, i.bytes)) = some (some (.agg #[.string ⟨#[]⟩, .string ⟨#[]⟩]), 2, 32) := by kernel_rfl
theorem info133 : (Tryz.prog.info? 133).map (fun i => (i.zero, i.size, i.bytes)) = some (some (.agg #[.int .i64 0, .int .i64 0, .string ⟨#[]⟩]), 3, 32) := by kernel_rfl
theorem info58 : (Tryz.prog.info? 58).map (fun i => (i.zero, i.size, i.bytes)) = some (some (.agg #[.int .i64 0, .string ⟨#[]⟩, .string ⟨#[]⟩, .int .i64 0, .slice none 0 0, .bool false, .int .i64 0, .int .i64 0, .slice none 0 0, .int .i64 0, .int .i64 0]), 11, 136) := by kernel_rfl

/-- The colouring in which just the blocks from H on are marked. -/
def newCol (H : Nat) : Col := fun g => if H ≤ g then (9, 9, 9) else (0, 0, 0)
/-- A row in memory that is new since the heap had H blocks. -/
def RowNew (H : Nat) (w : World) (e : TypeId) (size : Nat) (A : Option Addr) (n cap : Nat) (xs : List Value) : Prop := RowOk w (newCol H) (9, 9, 9) e size A n cap xs

theorem RowNew.of_row {H : Nat} {w w' : World} {c' : Col} {e : TypeId} {size : Nat} {A : Option Addr} {n cap : Nat} {xs : List Value}
    (hm : Mv (· = (9, 9, 9)) w (fun _ => (0, 0, 0)) w' c') (h : RowOk w' c' (9, 9, 9) e size A n cap xs) (hH : H ≤ w.heap.size) : RowNew H w' e size A n cap xs := by
  refine ⟨h.1, ?_⟩
  rcases h.2 with h0 | ⟨g, cur, hA, hc, rest⟩
  · exact .inl h0
  · refine .inr ⟨g, cur, hA, ?_, rest⟩
    have : ¬ g < w.heap.size := fun hlt => by
      have := hm.ext g hlt
      rw [this] at hc
      exact absurd hc (by decide)
    simp [newCol, show H ≤ g by omega]
theorem below_of_mv {w w' : World} {c' : Col} (hm : Mv (· = (9, 9, 9)) w (fun _ => (0, 0, 0)) w' c') : Below w.heap.size w w' :=
  ⟨hm.os, hm.tape, hm.output, hm.size, fun g hg => hm.blk g hg (by decide)⟩

theorem RowNew.below {H : Nat} {w w' : World} {e : TypeId} {size : Nat} {A : Option Addr} {n cap : Nat} {xs : List Value} (h : RowNew H w e size A n cap xs) (hb : Below w.heap.size w w') : RowNew H w' e size A n cap xs :=
  h.kp fun g hg e => ⟨hb.block g hg, e⟩
theorem RowNew.setCell {H : Nat} {w : World} {e : TypeId} {size : Nat} {A : Option Addr} {n cap : Nat} {xs : List Value} (h : RowNew H w e size A n cap xs) {a : Addr} (ha : a.block < H) (v : Value) : RowNew H (w.setCell a v) e size A n cap xs :=
  h.kp (kp_setCell (by unfold newCol; rw [if_neg (by omega)]; decide) v)
theorem RowNew.more {H H' : Nat} {w : World} {e : TypeId} {size : Nat} {A : Option Addr} {n cap : Nat} {xs : List Value} (h : RowNew H w e size A n cap xs) (hH : H' ≤ H) : RowNew H' w e size A n cap xs := by
  refine ⟨h.1, ?_⟩
  rcases h.2 with h0 | ⟨g, cur, hA, hc, rest⟩
  · exact .inl h0
  · refine .inr ⟨g, cur, hA, ?_, rest⟩
    have : H ≤ g := by
      unfold newCol at hc
      split at hc
      · assumption
      · exact absurd hc (by decide)
    simp [newCol, show H' ≤ g by omega]
/-- A new row that is nobody's is given a colour. -/
theorem RowNew.own {H : Nat} {w : World} {e : TypeId} {size : Nat} {A : Option Addr} {n cap : Nat} {xs : List Value} (h : RowNew H w e size A n cap xs) (c : Col) (k : Key) :
    ∃ c', RowOk w c' k e size A n cap xs ∧ (c' = c ∨ ∃ g, H ≤ g ∧ g < w.heap.size ∧ c' = paint c g k ∧ ∃ cur, w.heap[g]? = some (.cells cur e (0, 0))) := by
  rcases h.2 with h0 | ⟨g, cur, hA, hc, hg, rest⟩
  · exact ⟨c, ⟨h.1, .inl h0⟩, .inl rfl⟩
  · have hHg : H ≤ g := by
      unfold newCol at hc
      split at hc
      · assumption
      · exact absurd hc (by decide)
    exact ⟨paint c g k, ⟨h.1, .inr ⟨g, cur, hA, paint_at _ _ _, hg, rest⟩⟩, .inr ⟨g, hHg, lt_of_heap hg, rfl, cur, hg⟩⟩

theorem attrCells_one (l : List At) : ∀ u ∈ attrCells l, u.oneCell' = true := by
  intro u hu
  simp only [attrCells, List.mem_flatMap] at hu
  obtain ⟨p, _, hu⟩ := hu
  simp at hu
  rcases hu with rfl | rfl <;> rfl
theorem attrCells_len (l : List At) : (attrCells l).length = l.length * 2 := by
  induction l with
  | nil => rfl
  | cons p l ih => simp [attrCells] at ih ⊢; omega
theorem intCells_one (l : List Int) : ∀ u ∈ intCells l, u.oneCell' = true := ints_oneCell _ _
theorem intCells_len (l : List Int) : (intCells l).length = l.length * 1 := by simp [intCells]

/-- The cells behind a slice. -/
def Src (w : World) (A : Option Addr) (xs : List Value) : Prop := (A = none → xs = []) ∧ ∀ ad, A = some ad → ∀ j u, xs[j]? = some u → w.cell? (ad.add j) = some u
theorem Src.loc {w w' : World} {A : Option Addr} {xs : List Value} (h : Src w A xs) (hb : Below w.heap.size w w') : Src w' A xs :=
  ⟨h.1, fun ad had j u hu => by rw [hb.cell (block_lt_of_cell (h.2 ad had j u hu))]; exact h.2 ad had j u hu⟩
theorem add_zero_at (g j : Nat) : (⟨g, 0, none⟩ : Addr).add j = ⟨g, j, none⟩ := by unfold Addr.add; split <;> simp_all
theorem RowOk.src {w : World} {c : Col} {k : Key} {e : TypeId} {size : Nat} {A : Option Addr} {n cap : Nat} {xs : List Value} (h : RowOk w c k e size A n cap xs) : Src w A xs := by
  rcases Nat.eq_zero_or_pos n with h0 | h0
  · have hx : xs = [] := List.eq_nil_of_length_eq_zero (by rw [h.1, h0]; simp)
    subst hx
    exact ⟨fun _ => rfl, fun _ _ j u hu => by simp at hu⟩
  · obtain ⟨g, rfl, -, -, hc, -⟩ := h.at_ h0
    exact ⟨(by simp), fun ad had j u hu => by
      obtain rfl := Option.some.inj had
      rw [add_zero_at]
      exact hc j u hu⟩
theorem attrCells_nil {l : List At} (h : attrCells l = []) : l = [] := by
  cases l with
  | nil => rfl
  | cons p l => simp [attrCells] at h

set_option maxHeartbeats 400000 in
theorem cloneAttrs (w : World) (A : Option Addr) (cap : Nat) (l : List At) (hn : l.length ≤ 1000000000)
    (hA : A = none → l = []) (hc : ∀ ad, A = some ad → ∀ j u, (attrCells l)[j]? = some u → w.cell? (ad.add j) = some u) :
    Calls Tryz.prog 121 #[.slice A l.length cap] w fun e w' => ∃ A' cap', e = .returned (.slice A' l.length cap') ∧ Below w.heap.size w w' ∧ RowNew w.heap.size w' 84 2 A' l.length cap' (attrCells l) := by
  have hnil := @Lib.run_eql_slice_nil Tryz.prog
  cases A with
  | none =>
    obtain rfl := hA rfl
    go_enter Tryz.func121, Tryz.ntmps121
    go_wp2_with fail
    go_ret
    exact ⟨none, 0, rfl, Below.refl _ _, RowOk.none_⟩
  | some ad =>
    have hc' := hc ad rfl
    clear hc hA
    obtain ⟨i, hi, hz0, hz1, hz2⟩ := info_parts info84
    go_enter Tryz.func121, Tryz.ntmps121
    go_wp2_with (at_builtin; refine wpList_append_row _ (fun _ => (0, 0, 0)) (9, 9, 9) rfl _ _ 22 rfl 84 i _ 2 32 Tryz.underlying22 hi hz0 hz1 hz2 rfl (by decide) _ 0 0 [] rfl RowOk.none_ (some ad) l.length cap (attrCells l) rfl (attrCells_len l) (by simp) ?c1 (attrCells_one l) ?c2 ?c3 ?_)
    case c1 =>
      rintro _ ⟨rfl⟩ j u hu
      rw [World.cell?_alloc_lt _ _ _ (block_lt_of_cell (hc' j u hu))]
      exact hc' j u hu
    case c2 => unfold maxLen; omega
    case c3 => omega
    intro A' cap' w1 c1 hrow hmv
    go_wp2_with fail
    go_ret
    simp only [Nat.zero_add, List.nil_append] at hrow ⊢
    exact ⟨A', cap', rfl, below_step (below_alloc (Below.refl _ _) _) (below_of_mv hmv), RowNew.of_row hmv hrow (by simp)⟩

set_option maxHeartbeats 400000 in
theorem cloneInts (w : World) (A : Option Addr) (cap : Nat) (l : List Int) (hn : l.length ≤ 1000000000)
    (hA : A = none → l = []) (hc : ∀ ad, A = some ad → ∀ j u, (intCells l)[j]? = some u → w.cell? (ad.add j) = some u) :
    Calls Tryz.prog 83 #[.slice A l.length cap] w fun e w' => ∃ A' cap', e = .returned (.slice A' l.length cap') ∧ Below w.heap.size w w' ∧ RowNew w.heap.size w' 3 1 A' l.length cap' (intCells l) := by
  have hnil := @Lib.run_eql_slice_nil Tryz.prog
  cases A with
  | none =>
    obtain rfl := hA rfl
    go_enter Tryz.func83, Tryz.ntmps83
    go_wp2_with fail
    go_ret
    exact ⟨none, 0, rfl, Below.refl _ _, RowOk.none_⟩
  | some ad =>
    have hc' := hc ad rfl
    clear hc hA
    obtain ⟨i, hi, hz0, hz1, hz2⟩ := info_parts info3
    go_enter Tryz.func83, Tryz.ntmps83
    go_wp2_with (at_builtin; refine wpList_append_row _ (fun _ => (0, 0, 0)) (9, 9, 9) rfl _ _ 31 rfl 3 i _ 1 8 Tryz.underlying31 hi hz0 hz1 hz2 rfl (by decide) _ 0 0 [] rfl RowOk.none_ (some ad) l.length cap (intCells l) rfl (intCells_len l) (by simp) ?c1 (intCells_one l) ?c2 ?c3 ?_)
    case c1 =>
      rintro _ ⟨rfl⟩ j u hu
      rw [World.cell?_alloc_lt _ _ _ (block_lt_of_cell (hc' j u hu))]
      exact hc' j u hu
    case c2 => unfold maxLen; omega
    case c3 => omega
    intro A' cap' w1 c1 hrow hmv
    go_wp2_with fail
    go_ret
    simp only [Nat.zero_add, List.nil_append] at hrow ⊢
    exact ⟨A', cap', rfl, below_step (below_alloc (Below.refl _ _) _) (below_of_mv hmv), RowNew.of_row hmv hrow (by simp)⟩

theorem cloneAttrs' (w : World) (A : Option Addr) (cap : Nat) (l : List At) (hn : l.length ≤ 1000000000) (hs : Src w A (attrCells l)) :
    Calls Tryz.prog 121 #[.slice A l.length cap] w fun e w' => ∃ A' cap', e = .returned (.slice A' l.length cap') ∧ Below w.heap.size w w' ∧ RowNew w.heap.size w' 84 2 A' l.length cap' (attrCells l) :=
  cloneAttrs w A cap l hn (fun h => attrCells_nil (hs.1 h)) hs.2
theorem cloneInts' (w : World) (A : Option Addr) (cap : Nat) (l : List Int) (hn : l.length ≤ 1000000000) (hs : Src w A (intCells l)) :
    Calls Tryz.prog 83 #[.slice A l.length cap] w fun e w' => ∃ A' cap', e = .returned (.slice A' l.length cap') ∧ Below w.heap.size w w' ∧ RowNew w.heap.size w' 3 1 A' l.length cap' (intCells l) :=
  cloneInts w A cap l hn (fun h => by simpa [intCells] using hs.1 h) hs.2

set_option maxHeartbeats 400000 in
/-- arena.bare: a node without parent, kids and content. -/
theorem aBare (w : World) (x : NdC) (hn : x.nd.attrs.length ≤ 1000000000)
    (hA : x.aA = none → x.nd.attrs = []) (hc : ∀ ad, x.aA = some ad → ∀ j u, (attrCells x.nd.attrs)[j]? = some u → w.cell? (ad.add j) = some u) :
    Calls Tryz.prog 119 #[x.val] w fun e w' => ∃ A' cap', e = .returned (NdC.val { nd := { x.nd with parent := -1, content := 0, kids := [] }, aA := A', acap := cap', kA := none, kcap := 0 }) ∧
      Below w.heap.size w w' ∧ RowNew w.heap.size w' 84 2 A' x.nd.attrs.length cap' (attrCells x.nd.attrs) := by
  unfold NdC.val NdC.cells
  go_enter Tryz.func119, Tryz.ntmps119
  go_wp2_with fail
  refine (cloneAttrs _ x.aA x.acap x.nd.attrs hn hA ?_).mono ?_
  · intro ad had j u hu
    have h1 := hc ad had j u hu
    have h2 := block_lt_of_cell h1
    rw [World.cell?_alloc_lt _ _ _ (by simp; omega), World.cell?_alloc_lt _ _ _ h2]
    exact h1
  · rintro e w1 ⟨A', cap', rfl, hb1, hr1⟩
    have H0 : HB w1 w.heap.size 58 x.cells := by
      refine HB.below ?_ hb1
      refine HB.alloc ?_ _
      exact HB.new w 58 x.cells
    have H1 : HB w1 (w.heap.size + 1) 58 zeroNode := by
      refine HB.below ?_ hb1
      exact HB.at_ (by simp)
    have hz := H1.lt
    obtain ⟨b0, b1, b2, b3, b4, b5, b6, b7, b8, b9, b10⟩ := H0.node
    have f0 := H0.frozen
    have d0 := H1.cell 0
    have d1 := H1.cell 1
    have d2 := H1.cell 2
    have d3 := H1.cell 3
    have d4 := H1.cell 4
    have d5 := H1.cell 5
    have d6 := H1.cell 6
    have d7 := H1.cell 7
    have d8 := H1.cell 8
    have d9 := H1.cell 9
    have d10 := H1.cell 10
    have f1 := H1.frozen
    simp only [zeroNode, List.getElem?_cons_zero, List.getElem?_cons_succ] at d0 d1 d2 d3 d4 d5 d6 d7 d8 d9 d10
    clear H0 H1
    go_wp2_with fail
    refine bodyPost_ret (v := NdC.val { nd := { x.nd with parent := -1, content := 0, kids := [] }, aA := A', acap := cap', kA := none, kcap := 0 }) ?_ rfl ?_
    · simp [results, Tryz.results119, go_sem, NdC.val, NdC.cells, d0, d1, d2, d3, d4, d5, d6, d7, d8, d9, d10]
    · have hb : Below w.heap.size w w1 := below_step (below_alloc (below_alloc (Below.refl _ _) _) _) hb1
      refine ⟨A', cap', rfl, ?_, ?_⟩
      · repeat (refine Below.setCell ?_ (by simp) _)
        exact hb
      · refine RowNew.more (H := w.heap.size + 1 + 1) ?_ (by omega)
        repeat (refine RowNew.setCell ?_ (by dsimp only; omega) _)
        simpa only [World.size_alloc] using hr1

end Go.Proofs.YtjmlkmlbhfkhbaaGreatDoor
