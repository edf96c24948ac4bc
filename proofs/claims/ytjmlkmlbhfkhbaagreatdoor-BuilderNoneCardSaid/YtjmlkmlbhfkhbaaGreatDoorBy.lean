/-
  The builder's table of names, and found.
-/
import Derived.Test.YtjmlkmlbhfkhbaaGreatDoorBld5
import Derived.Test.YtjmlkmlbhfkhbaaGreatDoorRows
import Derived.LaidMore
import Derived.LaidSub
import Derived.LaidHandle
import Derived.MakeChecks
import Derived.ProofKit
import Derived.Stop.Joined
import Derived.Laws.IdiomMaps
namespace Go.Proofs.YtjmlkmlbhfkhbaaGreatDoor
open Go Go.RowKit Go.ChangeShapes Go.WideShapes ChangeAt Go.WideMaps Go.WideElems

def byT : List (List UInt8 × Int) := [([98, 111, 100, 121], 6), ([99, 97, 112, 116, 105, 111, 110], 10), ([99, 111, 108, 103, 114, 111, 117, 112], 11), ([104, 101, 97, 100], 3), ([116, 97, 98, 108, 101], 8), ([116, 98, 111, 100, 121], 12), ([116, 100], 14), ([116, 102, 111, 111, 116], 12), ([116, 104], 14), ([116, 104, 101, 97, 100], 12), ([116, 114], 13)]
def byM (s : Str) : Option Int := (byT.find? (fun p => p.1 == s.data.toList)).map (·.2)
def byN (s : Str) : Int := (byM s).getD 0
def byB (s : Str) : Bool := (byM s).isSome
def byV (s : Str) : Value := .tuple #[.int .i64 (byN s), .bool (byB s)]

structure ByAt (w : World) (mb : Nat) (es : Array MapEntry) (clock : Nat) : Prop where
  cell : w.cell? ⟨1, 0, none⟩ = some (.map (some mb))
  blk : w.heap[mb]? = some (.map es clock)
  look : ∀ (w' : World) (s : Str), w'.heap[mb]? = some (.map es clock) → s.size ≤ maxLen → (Instr.lookup 136 (.map (some mb)) (.string s) true).run Tryz.prog w' = .ok (byV s) w'
def ByOk (w : World) (c : Col) : Prop := ∃ mb es clock, (c 1).1 = 0 ∧ (c mb).1 = 0 ∧ ByAt w mb es clock

theorem ByOk.mv {S : Key → Prop} {w w' : World} {c c' : Col} (H : ByOk w c) (hm : Mv S w c w' c') (hS : ∀ k, S k → k.1 ≠ 0) : ByOk w' c' := by
  obtain ⟨mb, es, clock, h1, h2, h3⟩ := H
  have l1 : 1 < w.heap.size := block_lt_of_cell h3.cell
  have l2 : mb < w.heap.size := (Array.getElem?_eq_some_iff.1 h3.blk).1
  refine ⟨mb, es, clock, by rw [hm.ext _ l1]; exact h1, by rw [hm.ext _ l2]; exact h2, ?_, ?_, h3.look⟩
  · rw [World.cell?_of_block (w := w) (hm.blk _ l1 (fun hs => hS _ hs h1))]; exact h3.cell
  · rw [hm.blk _ l2 (fun hs => hS _ hs h2)]; exact h3.blk
theorem ByOk.loc {w w' : World} {c : Col} (H : ByOk w c) (hb : Below w.heap.size w w') : ByOk w' c := H.mv (Mv.of_below (S := fun _ => False) hb) (fun _ h => h.elim)
theorem Pr.ne {h : Hd} (hs : h.sd ≠ 0) : ∀ k, Pr h k → k.1 ≠ 0 := fun k hk => by unfold Pr at hk; rw [hk]; exact hs

theorem gBy : Tryz.prog.globalNamed "lazaret/builder.by" = some 1 := by kernel_rfl
theorem tBy : (Tryz.prog.globals[1]?).map (·.type) = some 136 := by kernel_rfl
theorem keyLaw9 : KeyLaw Tryz.prog 9 := string_law Tryz.underlying9

abbrev nHtml : Str := ⟨#[104, 116, 109, 108]⟩
abbrev laidBy : List (String × DataW Unit) := [("lazaret/builder.by", Rows.laid_lazaret_builder_by)]

theorem find_rows (k : List UInt8) (zd : DataW Unit) : ∀ l : List (List UInt8 × Int),
    (match (l.map fun p => ((Lit.string p.1, DataW.lit (Lit.int .i64 p.2)) : Lit × DataW Unit)).find? (fun p => p.1.sameKey (.string k)) with | some p => p.2 | none => zd) =
      match (l.find? (fun p => p.1 == k)).map (·.2) with | some v => .lit (.int .i64 v) | none => zd
  | [] => rfl
  | p :: r => by
    have ih := find_rows k zd r
    cases hq : p.1 == k with
    | true => simp [List.find?, Lit.sameKey, hq]
    | false => simpa [List.find?, Lit.sameKey, hq] using ih
theorem atKey_by (s : Str) (zd : DataW Unit) : (Rows.laid_lazaret_builder_by : DataW Unit).atKey (.string s.data.toList) zd = match byM s with | some v => .lit (.int .i64 v) | none => zd :=
  by
  have e : (Rows.laid_lazaret_builder_by : DataW Unit) = .map (byT.map fun p => ((Lit.string p.1, DataW.lit (Lit.int .i64 p.2)) : Lit × DataW Unit)) := rfl
  rw [e]
  unfold byM DataW.atKey
  generalize byT = l
  have := find_rows s.data.toList zd l
  simp only
  revert this
  cases (l.find? (fun p => p.1 == s.data.toList)).map (·.2) <;> cases (l.map fun p => ((Lit.string p.1, DataW.lit (Lit.int .i64 p.2)) : Lit × DataW Unit)).find? (fun p => p.1.sameKey (.string s.data.toList)) <;> exact id

set_option maxRecDepth 100000 in
theorem by_of_laid {W : World} (h : laidMetH Tryz.prog laidBy W) : ∃ mb es clock, ByAt W mb es clock := by
  rw [MakeChecks.laidMetH_plain _ _ _ (by kernel_rfl)] at h
  obtain ⟨ps, ⟨g0, t0, cs0, f0, p0, q0, hg0, ht0, hv0, hd0, _, _⟩, _, _⟩ := h
  obtain rfl := Option.some.inj (gBy.symm.trans hg0)
  obtain rfl := Option.some.inj (tBy.symm.trans ht0)
  rcases open_map Tryz.underlying136 hd0 with ⟨_, hx⟩ | ⟨bm, es, clock, m, rfl, hcs, hb, _, F, hx⟩
  · simp [Rows.laid_lazaret_builder_by] at hx
  simp only [Prod.mk.injEq] at hx
  refine ⟨bm, es, clock, ?_, hb, ?_⟩
  · have := World.var?_cell hg0 hv0 0
    rw [Array.eq_one_of_toList hcs] at this
    simpa using this
  · intro w' s hb' hs
    have zero : (zeroValue 3).run Tryz.prog w' = .ok (.int .i64 0) w' := by kernel_rfl
    rcases fit_lookup_ok (w := w') keyLaw9 Tryz.underlying136 zero hb' F (keyOf_string_mk (s := s) Tryz.underlying9 hs) with ⟨hrun, hat⟩ | ⟨v, y, hrun, hRv, hat, _⟩
    · have h1 := hat .nil
      have h2 := hat (.agg [])
      rw [← hx.1, atKey_by] at h1 h2
      cases hm : byM s with
      | none => unfold byV byN byB; rw [hm]; exact hrun
      | some v => rw [hm] at h1; cases h1
    · obtain ⟨r, rfl, rfl, _⟩ := elemAt_int Tryz.underlying3 hRv
      have h1 := hat .nil
      rw [← hx.1, atKey_by] at h1
      cases hm : byM s with
      | none => rw [hm] at h1; cases h1
      | some v => 
        rw [hm] at h1
        cases h1
        unfold byV byN byB; rw [hm]; exact hrun

def foundR (st : St) (n : Nd) (first : Bool) : Int × Bool :=
  if n.space ≠ 0 then (0, false) else if eqS n.name nTemplate && decide (0 < st.modes.length) then ((st.modes[st.modes.length - 1]?).getD 0, true)
  else if eqS n.name nHtml && decide (st.head < 0) then (2, true) else if eqS n.name nHtml then (5, true)
  else if first && (decide (byN n.name = 14) || decide (byN n.name = 3)) then (0, false) else (byN n.name, byB n.name)

end Go.Proofs.YtjmlkmlbhfkhbaaGreatDoor
