/-
  A token that came in, opened.
-/
import Derived.Test.YtjmlkmlbhfkhbaaGreatDoorHp15
import Derived.Lib.SmallJoins
import Derived.WideKeyArgs
set_option linter.unusedSimpArgs false
set_option linter.unusedVariables false
namespace Go.Proofs.YtjmlkmlbhfkhbaaGreatDoor
open Go Go.RowKit Go.ChangeShapes Go.WideShapes Go.WideElems

theorem array9 {α : Type} {cs : Array α} (h : cs.size = 9) : ∃ c0 c1 c2 c3 c4 c5 c6 c7 c8, cs = #[c0, c1, c2, c3, c4, c5, c6, c7, c8] := by
  obtain ⟨l⟩ := cs
  match l, h with
  | [c0, c1, c2, c3, c4, c5, c6, c7, c8], _ => exact ⟨c0, c1, c2, c3, c4, c5, c6, c7, c8, rfl⟩

theorem attr_of {l : List At} : ∀ {j : Nat} {u : Value}, (attrCells l)[j]? = some u → ∃ (i : Nat) (p : At), l[i]? = some p ∧ ((j = i * 2 ∧ u = .string p.1) ∨ (j = i * 2 + 1 ∧ u = .string p.2)) := by
  induction l with
  | nil => intro j u h; simp [attrCells] at h
  | cons q l ih =>
    intro j u h
    rcases j with _ | _ | j
    · simp [attrCells] at h; exact ⟨0, q, rfl, .inl ⟨rfl, h.symm⟩⟩
    · simp [attrCells] at h; exact ⟨0, q, rfl, .inr ⟨rfl, h.symm⟩⟩
    · have h' : (attrCells l)[j]? = some u := by simpa [attrCells] using h
      obtain ⟨i, p, h1, h2⟩ := ih h'
      refine ⟨i + 1, p, by simpa using h1, ?_⟩
      rcases h2 with ⟨rfl, rfl⟩ | ⟨rfl, rfl⟩
      · exact .inl ⟨by omega, rfl⟩
      · exact .inr ⟨by omega, rfl⟩

theorem list_of {α : Type} (P : Nat → α → Prop) : ∀ n, (∀ i, i < n → ∃ p, P i p) → ∃ l : List α, l.length = n ∧ ∀ i p, l[i]? = some p → P i p
  | 0, _ => ⟨[], rfl, fun i p h => by simp at h⟩
  | n + 1, h => by
    obtain ⟨l, hl, hp⟩ := list_of P n fun i hi => h i (by omega)
    obtain ⟨q, hq⟩ := h n (by omega)
    refine ⟨l ++ [q], by simp [hl], fun i p hip => ?_⟩
    by_cases hi : i < l.length
    · rw [List.getElem?_append_left hi] at hip; exact hp i p hip
    · rw [List.getElem?_append_right (by omega)] at hip
      have : i - l.length = 0 := by
        by_cases h0 : i - l.length = 0
        · exact h0
        · rw [List.getElem?_eq_none (by simp; omega)] at hip; cases hip
      rw [this] at hip
      simp at hip
      subst hip
      rw [show i = n by omega]
      exact hq

theorem add_add1 (a : Addr) (i : Nat) : (a.add i).add 1 = a.add (i + 1) := by
  unfold Addr.add
  by_cases hi : i = 0
  · subst hi; simp
  · simp [hi, Nat.add_assoc]
theorem add_add0 (a : Addr) : a.add 0 = a := by unfold Addr.add; simp

section
variable {H : Type} {enc : TypeId × Value → H} {w : World} {base : Nat} {sp : Nat → Bool} {held : Bool}
theorem cells84 : Tryz.prog.cellsOf 84 = 2 := by kernel_rfl
theorem cells9 : Tryz.prog.cellsOf 9 = 1 := by kernel_rfl
theorem cells24 : Tryz.prog.cellsOf 24 = 9 := by kernel_rfl
theorem cells22 : Tryz.prog.cellsOf 22 = 1 := by kernel_rfl
theorem cells3 : Tryz.prog.cellsOf 3 = 1 := by kernel_rfl
theorem cells4 : Tryz.prog.cellsOf 4 = 1 := by kernel_rfl

theorem two_cells {a : Addr} {cs : List Value} (h : w.cells? base a 2 = some cs) : ∃ c0 c1, cs = [c0, c1] ∧ w.cell? a = some c0 ∧ w.cell? (a.add 1) = some c1 := by
  unfold World.cells? at h
  split at h
  · simp only [List.range_succ, List.range_zero, List.nil_append, List.mapM_cons, List.mapM_nil, add_add0, List.cons_append] at h
    cases h0 : w.cell? a with
    | none => simp [h0] at h
    | some c0 =>
      cases h1 : w.cell? (a.add 1) with
      | none => simp [h0, h1] at h
      | some c1 => simp [h0, h1] at h; exact ⟨c0, c1, h.symm, rfl, rfl⟩
  · cases h

theorem attrs_open {fuel : Nat} {cs : List Value} {x : DataW H × List MemPlace} (h : DataW.trod enc Tryz.prog w base sp held fuel 22 cs = some x) :
    ∃ (A : Option Addr) (l : List At) (cap : Nat), cs = [.slice A l.length cap] ∧ Src w A (attrCells l) := by
  rcases DataW.trod_slice Tryz.underlying22 h with ⟨rfl, -⟩ | ⟨a, len, cap, elems, rest, n, -, rfl, -, -, -, -, hlen, hel, -⟩
  · exact ⟨none, [], 0, rfl, fun _ => rfl, fun _ e => by cases e⟩
  · obtain ⟨l, hl, hp⟩ := list_of (fun i (p : At) => w.cell? (a.add (i * 2)) = some (.string p.1) ∧ w.cell? (a.add (i * 2 + 1)) = some (.string p.2)) len fun i hi => by
      have hE := hel i hi
      rw [cells84] at hE
      rw [List.getElem?_eq_getElem (by omega)] at hE
      simp only [Option.bind_eq_some_iff] at hE
      obtain ⟨c, hc, hy⟩ := hE
      obtain ⟨c0, c1, rfl, k0, k1⟩ := two_cells hc
      obtain ⟨xs, m, -, -, -, hlx, hf⟩ := DataW.trod_struct Tryz.underlying84 hy
      have hlx' : xs.length = 2 := hlx
      have f0 : DataW.trod enc Tryz.prog w base sp held m 9 (List.take (Tryz.prog.cellsOf 9) (List.drop 0 [c0, c1])) = xs[0]? := hf 0 _ rfl
      have f1 : DataW.trod enc Tryz.prog w base sp held m 9 (List.take (Tryz.prog.cellsOf 9) (List.drop 1 [c0, c1])) = xs[1]? := hf 1 _ rfl
      rw [List.getElem?_eq_getElem (by omega)] at f0 f1
      simp only [cells9, List.drop, List.take] at f0 f1
      obtain ⟨s0, e0, -, -⟩ := DataW.trod_string Tryz.underlying9 f0
      obtain ⟨s1, e1, -, -⟩ := DataW.trod_string Tryz.underlying9 f1
      cases e0
      cases e1
      rw [add_add1] at k1
      exact ⟨(s0, s1), k0, k1⟩
    refine ⟨some a, l, cap, by rw [hl], (by simp), fun ad had j u hu => ?_⟩
    cases had
    obtain ⟨i, p, h1, h2⟩ := attr_of hu
    obtain ⟨q1, q2⟩ := hp i p h1
    rcases h2 with ⟨rfl, rfl⟩ | ⟨rfl, rfl⟩
    · exact q1
    · exact q2

set_option maxRecDepth 100000 in
theorem open_tok {r : Reach} {b0 : Nat} {v : Value} {d : DataW H} {ps : List MemPlace} (hv : Value.okWide Tryz.prog w r b0 24 v) (h : DataW.Trod enc Tryz.prog w base sp held 24 v d ps) :
    ∃ t : Tok, v = t.val ∧ Src w t.aA (attrCells t.attrs) := by
  obtain ⟨cs, rfl, hsz⟩ := okWide_struct Tryz.underlying24 hv
  obtain ⟨c0, c1, c2, c3, c4, c5, c6, c7, c8, rfl⟩ := array9 (hsz.trans cells24)
  obtain ⟨fuel, hf⟩ := h
  obtain ⟨xs, m, -, -, -, hlx, hf⟩ := DataW.trod_struct Tryz.underlying24 hf
  have hlx' : xs.length = 9 := hlx
  have f0 : DataW.trod enc Tryz.prog w base sp held m 3 (List.take (Tryz.prog.cellsOf 3) (List.drop 0 [c0, c1, c2, c3, c4, c5, c6, c7, c8])) = xs[0]? := hf 0 _ rfl
  have f1 : DataW.trod enc Tryz.prog w base sp held m 9 (List.take (Tryz.prog.cellsOf 9) (List.drop 1 [c0, c1, c2, c3, c4, c5, c6, c7, c8])) = xs[1]? := hf 1 _ rfl
  have f2 : DataW.trod enc Tryz.prog w base sp held m 9 (List.take (Tryz.prog.cellsOf 9) (List.drop 2 [c0, c1, c2, c3, c4, c5, c6, c7, c8])) = xs[2]? := hf 2 _ rfl
  have f3 : DataW.trod enc Tryz.prog w base sp held m 22 (List.take (Tryz.prog.cellsOf 22) (List.drop 3 [c0, c1, c2, c3, c4, c5, c6, c7, c8])) = xs[3]? := hf 3 _ rfl
  have f4 : DataW.trod enc Tryz.prog w base sp held m 4 (List.take (Tryz.prog.cellsOf 4) (List.drop 4 [c0, c1, c2, c3, c4, c5, c6, c7, c8])) = xs[4]? := hf 4 _ rfl
  have f5 : DataW.trod enc Tryz.prog w base sp held m 4 (List.take (Tryz.prog.cellsOf 4) (List.drop 5 [c0, c1, c2, c3, c4, c5, c6, c7, c8])) = xs[5]? := hf 5 _ rfl
  have f6 : DataW.trod enc Tryz.prog w base sp held m 4 (List.take (Tryz.prog.cellsOf 4) (List.drop 6 [c0, c1, c2, c3, c4, c5, c6, c7, c8])) = xs[6]? := hf 6 _ rfl
  have f7 : DataW.trod enc Tryz.prog w base sp held m 3 (List.take (Tryz.prog.cellsOf 3) (List.drop 7 [c0, c1, c2, c3, c4, c5, c6, c7, c8])) = xs[7]? := hf 7 _ rfl
  have f8 : DataW.trod enc Tryz.prog w base sp held m 3 (List.take (Tryz.prog.cellsOf 3) (List.drop 8 [c0, c1, c2, c3, c4, c5, c6, c7, c8])) = xs[8]? := hf 8 _ rfl
  rw [List.getElem?_eq_getElem (by omega)] at f0 f1 f2 f3 f4 f5 f6 f7 f8
  simp only [cells9, cells22, cells3, cells4, Value.cells, List.drop, List.take] at f0 f1 f2 f3 f4 f5 f6 f7 f8
  obtain ⟨n0, e0, -, -⟩ := DataW.trod_int Tryz.underlying3 f0
  obtain ⟨s1, e1, -, -⟩ := DataW.trod_string Tryz.underlying9 f1
  obtain ⟨s2, e2, -, -⟩ := DataW.trod_string Tryz.underlying9 f2
  obtain ⟨A, l, cap, e3, hs⟩ := attrs_open f3
  obtain ⟨n4, e4, -⟩ := DataW.trod_bool Tryz.underlying4 f4
  obtain ⟨n5, e5, -⟩ := DataW.trod_bool Tryz.underlying4 f5
  obtain ⟨n6, e6, -⟩ := DataW.trod_bool Tryz.underlying4 f6
  obtain ⟨n7, e7, -, -⟩ := DataW.trod_int Tryz.underlying3 f7
  obtain ⟨n8, e8, -, -⟩ := DataW.trod_int Tryz.underlying3 f8
  cases e0; cases e1; cases e2; cases e3; cases e4; cases e5; cases e6; cases e7; cases e8
  exact ⟨{ kind := n0, name := s1, text := s2, attrs := l, aA := A, acap := cap, dup := n4, self := n5, quirks := n6, frm := n7, to_ := n8 }, rfl, hs⟩
end
end Go.Proofs.YtjmlkmlbhfkhbaaGreatDoor
