/-
  The stack's element, Insert at the end, Push; the arena's Node over a builder.
-/
import Derived.Test.YtjmlkmlbhfkhbaaGreatDoorSt1
namespace Go.Proofs.YtjmlkmlbhfkhbaaGreatDoor
open Go Go.RowKit

/-- The numbers that bound a state. -/
def Sz (N : Nat) (st : St) : Prop := st.ns.length ≤ N ∧ st.ns.length ≠ 0 ∧ (∀ (i : Nat) (n : Nd), st.ns[i]? = some n → n.attrs.length ≤ N ∧ n.kids.length ≤ N ∧ n.text.size ≤ N)

def ndVal (n : Nd) (A : Option Addr) (c1 : Nat) (K : Option Addr) (c2 : Nat) : Value :=
  .agg #[.int .i64 n.kind, .string n.name, .string n.text, .int .i64 n.space, .slice A n.attrs.length c1, .bool n.dup, .int .i64 n.parent, .int .i64 n.content, .slice K n.kids.length c2, .int .i64 n.frm, .int .i64 n.to_]

/-- Node of a builder's arena. -/
theorem aNodeB {w : World} {c : Col} {h : Hd} {st : St} (H : BRep w c h st) {N : Nat} (hs : Sz N st) (hN : N ≤ 100000000) {i : Nat} {n : Nd} (hi : st.ns[i]? = some n) :
    Calls Tryz.prog 72 #[.pointer (some ⟨h.a, 0, none⟩), .int .i64 i] w fun e w' => ∃ A c1 K c2, e = .returned (ndVal n A c1 K c2) ∧
      Below w.heap.size w w' ∧ RowNew w.heap.size w' 84 2 A n.attrs.length c1 (attrCells n.attrs) ∧ RowNew w.heap.size w' 3 1 K n.kids.length c2 (intCells n.kids) := by
  obtain ⟨X, H⟩ := H
  obtain ⟨y, hy, rfl⟩ := H.nodeOf hi
  have h1 := hs.2.2 i y.nd hi
  exact aNode (H.av (by have := hs.1; omega)) hy (by omega) (by omega) (H.nodes.each i y hy).2.src (H.nodes.each i y hy).1.src

set_option maxHeartbeats 1000000 in
theorem sElement {w : World} {c : Col} {h : Hd} {st : St} (H : BRep w c h st) {N : Nat} (hs : Sz N st) (hN : N ≤ 100000000) (hl : st.stk.length ≤ 1000000) {i : Nat} {n : Nd} (hi : st.ns[i]? = some n) (hk : n.kind = 3) :
    Calls Tryz.prog 168 #[.pointer (some ⟨h.s, 0, none⟩), .int .i64 i] w fun e w' => e = .returned (.tuple #[.agg #[.int .i64 i, .int .i64 n.space, .string n.name], .int .i64 0]) ∧ Below w.heap.size w w' := by
  have H1 := H.loc (below_alloc (Below.refl w.heap.size w) (.cells #[.int .i64 0, .int .i64 0, .string ⟨#[]⟩] 133))
  have ND := Lib.hid (aNodeB H1 hs hN hi)
  have hls := H1.choose_spec.hs.lt
  obtain ⟨X, H1⟩ := H1
  have N1 := Lib.hid (sNone (H1.sv hl))
  have a0 := (H1.sv hl).1
  clear H H1 hs hi
  go_enter Tryz.func168, Tryz.ntmps168
  go_wp2_with (first | (go_at_call 127; refine N1.out.mono ?_; rintro e w1 ⟨rfl, rfl⟩))
  refine ND.out.mono ?_
  rintro e w1 ⟨A, c1, K, c2, rfl, hb1, -, -⟩
  have H4 : HB w1 w.heap.size 133 [.int .i64 0, .int .i64 0, .string ⟨#[]⟩] := by
    refine HB.below ?_ hb1
    exact HB.new w 133 _
  have d0 := H4.cell 0
  have d1 := H4.cell 1
  have d2 := H4.cell 2
  have f0 := H4.frozen
  have hz := H4.lt
  simp only [List.getElem?_cons_zero, List.getElem?_cons_succ] at d0 d1 d2
  have hk' : (n.kind != 3) = false := by simp [hk]
  unfold ndVal
  clear H4 hk a0
  go_wp2_with fail
  refine bodyPost_ret (v := .tuple #[.agg #[.int .i64 i, .int .i64 n.space, .string n.name], .int .i64 0]) ?_ rfl ?_
  · simp [results, Tryz.results168, go_sem, d0, d1, d2, hz]
  · refine ⟨rfl, ?_⟩
    repeat (first | refine Below.alloc ?_ (by simp; omega) _ | refine Below.setCell ?_ (by simp) _)
    exact below_step (below_alloc (Below.refl _ _) _) hb1

end Go.Proofs.YtjmlkmlbhfkhbaaGreatDoor
