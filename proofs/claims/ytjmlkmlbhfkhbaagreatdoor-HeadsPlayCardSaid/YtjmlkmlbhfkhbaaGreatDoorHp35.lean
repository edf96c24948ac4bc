/-
  A parameter that is a slice of tokens, opened; the wrap that hands on the world's shape.
-/
import Derived.Test.YtjmlkmlbhfkhbaaGreatDoorHp32
import Derived.Test.YtjmlkmlbhfkhbaaGreatDoorHp31
import Derived.Test.YtjmlkmlbhfkhbaaGreatDoorHp33
import Derived.HandedShaped
set_option linter.unusedSimpArgs false
set_option linter.unusedVariables false
namespace Go.Proofs.YtjmlkmlbhfkhbaaGreatDoor
open Go Go.RowKit Go.ChangeShapes Go.WideShapes Go.WideElems Go.ChangeAt

theorem mapM_some {f : Nat → Option Value} : ∀ (l : List Nat) (cs : List Value), l.mapM f = some cs → cs.length = l.length ∧ ∀ (j i : Nat), l[j]? = some i → f i = cs[j]?
  | [], cs, h => by
    simp at h
    subst h
    exact ⟨rfl, fun j i hj => by simp at hj⟩
  | a :: r, cs, h => by
    rw [List.mapM_cons] at h
    cases ha : f a with
    | none => rw [ha] at h; cases h
    | some v =>
      cases hr : r.mapM f with
      | none => rw [ha, hr] at h; cases h
      | some vs =>
        rw [ha, hr] at h
        obtain rfl : v :: vs = cs := by simpa using h
        obtain ⟨h1, h2⟩ := mapM_some r vs hr
        refine ⟨by simp [h1], fun j i hj => ?_⟩
        cases j with
        | zero => simp at hj; subst hj; simpa using ha
        | succ j => simp at hj ⊢; exact h2 j i hj

theorem cells_of {w : World} {base n : Nat} {a : Addr} {cs : List Value} (h : w.cells? base a n = some cs) : cs.length = n ∧ ∀ j, j < n → w.cell? (a.add j) = cs[j]? := by
  unfold World.cells? at h
  split at h
  · obtain ⟨h1, h2⟩ := mapM_some _ _ h
    refine ⟨by simpa using h1, fun j hj => h2 j j (by rw [List.getElem?_range hj])⟩
  · cases h

section
variable {H : Type} {enc : TypeId × Value → H} {w : World} {base : Nat} {sp : Nat → Bool} {held : Bool}

set_option maxRecDepth 100000 in
theorem tok_cells {fuel : Nat} {cs : List Value} {x : DataW H × List MemPlace} (hl : cs.length = 9) (hf : DataW.trod enc Tryz.prog w base sp held fuel 24 cs = some x) : ∃ t : Tok, cs = t.cells ∧ Src w t.aA (attrCells t.attrs) := by
  obtain ⟨c0, c1, c2, c3, c4, c5, c6, c7, c8, hcs⟩ := array9 (cs := cs.toArray) (by simpa using hl)
  obtain rfl : cs = [c0, c1, c2, c3, c4, c5, c6, c7, c8] := by simpa using congrArg Array.toList hcs
  obtain ⟨xs, m, -, -, -, hlx, hf⟩ := DataW.trod_struct Tryz.underlying24 hf
  have hlx' : xs.length = 9 := hlx
  have f0 : DataW.trod enc Tryz.prog w base sp held m 3 (List.take (Tryz.prog.cellsOf 3) (List.drop 0 [c0, c1, c2, c3, c4, c5, c6, c7, c8])) = xs[0]? := hf 0 _ rfl
  have f1 : DataW.trod enc Tryz.prog w base sp held m 9 (List.take (Tryz.prog.cellsOf 9) (List.drop 1 [c0, c1, c2, c3, c4, c5, c6, c7, c8])) = xs[1]? := hf 1 _ rfl
  have f2 : DataW.trod enc Tryz.prog w base sp held m 9 (List.take (Tryz.prog.cellsOf 9) (List.drop 2 [c0, c1, c2, c3, c4, c5, c6, c7, c8])) = xs[2]? := hf 2 _ rfl
  have f3 : DataW.trod enc Tryz.prog w base sp held m 22 (List.take (Tryz.prog.cellsOf 22) (List.drop 3 [c0, c1, c2, c3, c4, c5, c6, c7, c8])) = xs[3]? := hf 3 _ rfl
  have f4 : DataW.trod enc Tryz.prog w base sp held m 4 (List.take (Tryz.prog.cellsOf 4) (List.drop 4 [c0, c1, c2, c3, c4, c5, c6, c7, c8])) = xs[4]? := hf 4 _ rfl
  have f5 : DataW.trod enc Tryz.prog w base sp held m 4 (List.take (Tryz.prog.cellsOf 4) (List.drop 5 [c0, c1, c2, c3, c4, c5, c6, c7, c8])) = xs[5]? := hf 5 _ rfl
  have f6 : DataW.trod enc Tryz.prog w base sp held m 4 (List.take (Tryz.prog.cellsOf 4) (List.drop 6 [c0, c1, c2, c3, c4, c5, c6, c7, c8])) = xs[6]? := hf 6 _ rfl
  have f7 : DataW.trod enc Tryz.prog w base sp held m 3 (List.take (Tryz.prog.cellsOf 3) (List.drop 7 [c0, c1, c2, c3, c4, c5, c6, c7, c8])) = xs[7]? := hf 7 _ rfl
  have f8 : DataW.trod enc Tryz.prog w base sp held m 3 (List.take (Tryz.prog.cellsOf 3) (List.drop 8 [c0, c1, c2, c3, c4, c5, c6, c7, c8])) = xs[8]? := hf 8 _ rfl
  rw [List.getElem?_eq_getElem (by omega)] at f0 f1 f2 f3 f4 f5 f6 f7 f8
  simp only [cells9, cells22, cells3, cells4, List.drop, List.take] at f0 f1 f2 f3 f4 f5 f6 f7 f8
  obtain ⟨n0, e0, -, -⟩ := DataW.trod_int Tryz.underlying3 f0
  obtain ⟨s1, e1, -, -⟩ := DataW.trod_string Tryz.underlying9 f1
  obtain ⟨s2, e2, -, -⟩ := DataW.trod_string Tryz.underlying9 f2
  obtain ⟨A, l, cap, e3, hs⟩ := attrs_open f3
  obtain ⟨n4, e4, -⟩ := DataW.trod_bool Tryz.underlying4 f4
  obtain ⟨n5, e5, -⟩ := DataW.trod_bool Tryz.underlying4 f5
  obtain ⟨n6, e6, -⟩ := DataW.trod_bool Tryz.underlying4 f6
  obtain ⟨n7, e7, -, -⟩ := DataW.trod_int Tryz.underlying3 f7
  obtain ⟨n8, e8, -, -⟩ := DataW.trod_int Tryz.underlying3 f8
  cases e0; cases e1; cases e2; cases e3; cases e4; cases e5; cases e6; cases e7; cases e8
  exact ⟨{ kind := n0, name := s1, text := s2, attrs := l, aA := A, acap := cap, dup := n4, self := n5, quirks := n6, frm := n7, to_ := n8 }, rfl, hs⟩

set_option maxRecDepth 100000 in
/-- A slice of tokens. -/
theorem open_toks {v : Value} {d : DataW H} {ps : List MemPlace} {r : Reach} {b0 : Nat} (hv : Value.okWide Tryz.prog w r b0 66 v) (h : DataW.Trod enc Tryz.prog w base sp held 66 v d ps) :
    ∃ (A : Option Addr) (l : List Tok) (cap : Nat), v = .slice A l.length cap ∧ ToksAt w col0 A l := by
  obtain ⟨a0, n0, c0, rfl⟩ := okWide_slice Tryz.underlying66 hv
  obtain ⟨fuel, hf⟩ := h
  rcases DataW.trod_slice Tryz.underlying66 hf with ⟨e, -⟩ | ⟨a, len, cap, elems, rest, n, -, e, -, -, -, -, hlen, hel, -⟩
  · have e' : [Value.slice a0 n0 c0] = [.slice none 0 0] := e
    cases e'
    exact ⟨none, [], 0, rfl, fun h => absurd rfl h⟩
  · have e' : [Value.slice a0 n0 c0] = [.slice (some a) len cap] := e
    cases e'
    obtain ⟨l, hl, hp⟩ := list_of (fun i (t : Tok) => (∀ j, j < 9 → w.cell? ((a.add (i * 9)).add j) = t.cells[j]?) ∧ Src w t.aA (attrCells t.attrs)) n0 fun i hi => by
      have hE := hel i hi
      rw [cells24] at hE
      rw [List.getElem?_eq_getElem (by omega)] at hE
      simp only [Option.bind_eq_some_iff] at hE
      obtain ⟨c, hc, hy⟩ := hE
      obtain ⟨h1, h2⟩ := cells_of hc
      obtain ⟨t, rfl, hs⟩ := tok_cells h1 hy
      exact ⟨t, h2, hs⟩
    refine ⟨some a, l, c0, by rw [hl], fun hne => ?_⟩
    obtain ⟨b, off, spot⟩ := a
    have hspot : spot = none := by
      cases l with
      | nil => exact absurd rfl hne
      | cons t r =>
        have := (hp 0 t rfl).1 0 (by decide)
        have h0 : w.cell? (((⟨b, off, spot⟩ : Addr).add (0 * 9)).add 0) = some (.int .i64 t.kind) := this
        simpa [Addr.add] using World.cell?_spot h0
    subst hspot
    refine ⟨b, off, rfl, rfl, fun i t ht => ⟨fun j u hu => ?_, ?_⟩⟩
    · have hj : j < 9 := (List.getElem?_eq_some_iff.1 hu).1
      have := (hp i t ht).1 j hj
      rw [Addr.add_lit, Addr.add_lit, hu] at this
      exact this
    · have hs := (hp i t ht).2
      refine ⟨fun e => ?_, fun ad had => ⟨fun _ => rfl, fun j u hu => hs.2 ad had j u hu⟩⟩
      have := hs.1 e
      cases hl2 : t.attrs with
      | nil => rfl
      | cons p r => rw [hl2] at this; simp [attrCells] at this
end

/-- The plain wrap with a condition, the world's shape handed on. -/
theorem handed_shaped {H : Type} {enc : TypeId × Value → H} {a : Assume} {C : Checked} {os : Os} {f : FuncId} {fn : Func} {s : ChangeSpec} {conds : List PathCond} {apart fresh handsOn again : Bool} {X : World → Array Value → Prop}
    (hX : ∀ (w w' : World) (args : Array Value), w.heap = w'.heap → X w args → X w' args)
    (own : ownKnob C.prog.godebug = none) (started : os.Started) (noInit : C.prog.inits.idxOf? f = none) (hfn : C.prog.funcs[f]? = some fn)
    (witness : ∃ (w : World) (tape : Tape) (i : Input), w.os = os ∧ (w.forCall tape i).Shaped C.prog ∧ i.vars = [] ∧ Input.okWide C.prog (w.forCall tape i) .any w.heap.size f i ∧
      ((s.pre enc C.prog fn conds apart (w.forCall tape i).memory i.args ∧ X (w.forCall tape i).memory i.args) ∧ sizedMet enc C.prog fn (OpenSpec.ofChange s) apart (w.forCall tape i).memory i.args) ∧ a.holds C.prog (lone (Frame.enter C.prog f i.args .normal) [] (w.forCall tape i)))
    (contract : ∀ (W : World) (base : Nat) (args : Array Value) (ds gs : List (DataW H)) (before : List MemPlace),
      (∀ (j : Nat) t v, fn.params[j]? = some t → args[j]? = some v → Value.okWide C.prog W .any base t v) →
      DataW.Whole enc C.prog fn.params.toList s.vars apart W args.toList ds gs before →
      conds.all (PathCond.test C.prog ⟨fn.params.toList, ds, s.plain.varTypes C.prog, gs⟩) = true →
      (DataW.weightsEach C.prog (fn.params.toList ++ s.plain.varTypes C.prog) (ds ++ gs)).all (· ≤ reachBytes) = true → X W args →
      W.ShapedOpen C.prog →
      a.holds C.prog (lone (Frame.enter C.prog f args .normal) [] W) →
      Calls C.prog f args W fun e W' => ∃ v, e = .returned v ∧ s.post enc C.prog fn apart fresh handsOn again W args v W') :
    ReturnsInHanded a C os f .any (fun w args => (s.pre enc C.prog fn conds apart w args ∧ X w args) ∧ sizedMet enc C.prog fn (OpenSpec.ofChange s) apart w args) (s.post enc C.prog fn apart fresh handsOn again) := by
  refine returnsInHanded_of_calls own started noInit witness ?_
  intro w tape i _ hsh _ hok hpre hholds
  obtain ⟨_, _, _, fn', hfn', _, _, _, _, hval⟩ := hok
  have e : fn' = fn := Option.some.inj (hfn'.symm.trans hfn)
  subst e
  obtain ⟨⟨⟨ds, gs, before, hw, hc⟩, hx⟩, hz⟩ := hpre
  have hw' := DataW.Whole.of_heap (w' := w.forCall tape i) (by rfl) hw
  refine (contract (w.forCall tape i) w.heap.size i.args ds gs before hval hw' hc (hz.weights hw) (hX _ _ _ (by rfl) hx) hsh hholds).mono fun e W' ⟨v, he, hp⟩ => ?_
  subst he
  exact ChangeSpec.post_blind hp
end Go.Proofs.YtjmlkmlbhfkhbaaGreatDoor
