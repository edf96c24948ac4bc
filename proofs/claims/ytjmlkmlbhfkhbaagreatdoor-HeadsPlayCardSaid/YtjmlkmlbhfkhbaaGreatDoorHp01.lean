/-
  The builder's state as plain data, and what it is for memory to hold it.
-/
import Derived.Test.YtjmlkmlbhfkhbaaGreatDoorHp00
set_option linter.unusedSimpArgs false
set_option linter.unusedVariables false
namespace Go.Proofs.YtjmlkmlbhfkhbaaGreatDoor
open Go Go.RowKit

abbrev Str := ByteArray
abbrev At := Str × Str

/-- A node as plain data. -/
structure Nd where
  kind : Int
  name : Str
  text : Str
  space : Int
  attrs : List At
  dup : Bool
  parent : Int
  content : Int
  kids : List Int
  frm : Int
  to_ : Int

/-- A node, and where its slices lie. -/
structure NdC where
  nd : Nd
  aA : Option Addr
  acap : Nat
  kA : Option Addr
  kcap : Nat

def NdC.cells (x : NdC) : List Value :=
  [.int .i64 x.nd.kind, .string x.nd.name, .string x.nd.text, .int .i64 x.nd.space, .slice x.aA x.nd.attrs.length x.acap, .bool x.nd.dup,
    .int .i64 x.nd.parent, .int .i64 x.nd.content, .slice x.kA x.nd.kids.length x.kcap, .int .i64 x.nd.frm, .int .i64 x.nd.to_]
def zeroNode : List Value := [.int .i64 0, .string ⟨#[]⟩, .string ⟨#[]⟩, .int .i64 0, .slice none 0 0, .bool false, .int .i64 0, .int .i64 0, .slice none 0 0, .int .i64 0, .int .i64 0]
def NdC.val (x : NdC) : Value := .agg x.cells.toArray

def attrCells (l : List At) : List Value := l.flatMap fun p => [.string p.1, .string p.2]
def intCells (l : List Int) : List Value := l.map (Value.int .i64)

/-- An open element. -/
structure OpE where
  node : Int
  space : Int
  name : Str
def OpE.cells (o : OpE) : List Value := [.int .i64 o.node, .int .i64 o.space, .string o.name]

/-- A builder's state. -/
structure St where
  ns : List Nd
  stk : List OpE
  fmt : List Int
  mode : Int
  back : Int
  modes : List Int
  head : Int
  form : Int
  quirks : Bool
  foster : Bool
  skip : Bool
  pending : Str
  ask : Option (Int × Str)

/-- A token, and where its attributes lie. -/
structure Tok where
  kind : Int
  name : Str
  text : Str
  attrs : List At
  aA : Option Addr
  acap : Nat
  dup : Bool
  self : Bool
  quirks : Bool
  frm : Int
  to_ : Int
def Tok.cells (t : Tok) : List Value :=
  [.int .i64 t.kind, .string t.name, .string t.text, .slice t.aA t.attrs.length t.acap, .bool t.dup, .bool t.self, .bool t.quirks, .int .i64 t.frm, .int .i64 t.to_]
def Tok.val (t : Tok) : Value := .agg t.cells.toArray

/-- Attributes that can be read where a slice says, in blocks of nobody's. -/
def AttrsAt (w : World) (c : Col) (A : Option Addr) (l : List At) : Prop :=
  (A = none → l = []) ∧ ∀ ad, A = some ad → (l ≠ [] → (c ad.block).1 = 0) ∧ ∀ j u, (attrCells l)[j]? = some u → w.cell? (ad.add j) = some u

/-- The blocks of a builder, and its side. -/
structure Hd where
  sd : Nat
  b : Nat
  a : Nat
  s : Nat
  l : Nat

structure Sh where
  gn : Nat
  ncap : Nat
  cs : List NdC
  sA : Option Addr
  scap : Nat
  fA : Option Addr
  fcap : Nat
  mA : Option Addr
  mcap : Nat
  kA : Option Addr

def bCells (h : Hd) (x : Sh) (st : St) : List Value :=
  [.pointer (some ⟨h.a, 0, none⟩), .pointer (some ⟨h.s, 0, none⟩), .pointer (some ⟨h.l, 0, none⟩), .int .i64 st.mode, .int .i64 st.back, .slice x.mA st.modes.length x.mcap,
    .int .i64 st.head, .int .i64 st.form, .bool st.quirks, .bool st.foster, .bool st.skip, .string st.pending, .pointer x.kA, .nilIface]

def NodeRows (w : World) (c : Col) (side : Nat) (i : Nat) (x : NdC) : Prop :=
  RowOk w c (side, 4, i) 3 1 x.kA x.nd.kids.length x.kcap (intCells x.nd.kids) ∧ RowOk w c (side, 5, i) 84 2 x.aA x.nd.attrs.length x.acap (attrCells x.nd.attrs)

/-- A row of nodes. -/
structure NodesRep (w : World) (c : Col) (side : Nat) (gn ncap : Nat) (cs : List NdC) : Prop where
  row : RowOk w c (side, 3, 0) 58 11 (some ⟨gn, 0, none⟩) cs.length ncap (cs.flatMap NdC.cells)
  each : ∀ i x, cs[i]? = some x → NodeRows w c side i x

structure BRepX (w : World) (c : Col) (h : Hd) (x : Sh) (st : St) : Prop where
  gd : Good w c
  sd : h.sd ≠ 0
  hb : Blk w c (h.sd, 1, 0) h.b 36 (bCells h x st)
  ha : Blk w c (h.sd, 2, 0) h.a 123 [.slice (some ⟨x.gn, 0, none⟩) x.cs.length x.ncap]
  nodes : NodesRep w c h.sd x.gn x.ncap x.cs
  ns : x.cs.map (·.nd) = st.ns
  hs : Blk w c (h.sd, 6, 0) h.s 121 [.pointer (some ⟨h.a, 0, none⟩), .slice x.sA st.stk.length x.scap]
  stk : RowOk w c (h.sd, 7, 0) 133 3 x.sA st.stk.length x.scap (st.stk.flatMap OpE.cells)
  hl : Blk w c (h.sd, 8, 0) h.l 117 [.pointer (some ⟨h.a, 0, none⟩), .slice x.fA st.fmt.length x.fcap]
  fmt : RowOk w c (h.sd, 9, 0) 3 1 x.fA st.fmt.length x.fcap (intCells st.fmt)
  modes : RowOk w c (h.sd, 10, 0) 3 1 x.mA st.modes.length x.mcap (intCells st.modes)
  ask : match st.ask with
    | none => x.kA = none
    | some (s, n) => ∃ g, x.kA = some ⟨g, 0, none⟩ ∧ Blk w c (h.sd, 11, 0) g 92 [.int .i64 s, .string n]

def BRep (w : World) (c : Col) (h : Hd) (st : St) : Prop := ∃ x, BRepX w c h x st

/-- A builder's side. -/
def Pr (h : Hd) : Key → Prop := fun k => k.1 = h.sd

theorem NodesRep.kp {w w' : World} {c c' : Col} {side gn ncap : Nat} {cs : List NdC} (h : NodesRep w c side gn ncap cs)
    (hk : ∀ p i, Kp (side, p, i) w c w' c') : NodesRep w' c' side gn ncap cs :=
  ⟨h.row.kp (hk _ _), fun i x hx => ⟨(h.each i x hx).1.kp (hk _ _), (h.each i x hx).2.kp (hk _ _)⟩⟩

theorem BRepX.kp {w w' : World} {c c' : Col} {h : Hd} {x : Sh} {st : St} (H : BRepX w c h x st) (hk : ∀ p i, Kp (h.sd, p, i) w c w' c') (hg : Good w' c') : BRepX w' c' h x st := by
  refine ⟨hg, H.sd, H.hb.kp (hk _ _), H.ha.kp (hk _ _), H.nodes.kp hk, H.ns, H.hs.kp (hk _ _), H.stk.kp (hk _ _), H.hl.kp (hk _ _), H.fmt.kp (hk _ _), H.modes.kp (hk _ _), ?_⟩
  have := H.ask
  cases hs : st.ask with
  | none => rw [hs] at this; exact this
  | some p =>
    rw [hs] at this
    obtain ⟨g, h1, h2⟩ := this
    exact ⟨g, h1, h2.kp (hk _ _)⟩

theorem BRep.mv {S : Key → Prop} {w w' : World} {c c' : Col} {h : Hd} {st : St} (H : BRep w c h st) (hm : Mv S w c w' c') (hS : ∀ p i, ¬ S (h.sd, p, i)) : BRep w' c' h st := by
  obtain ⟨x, H⟩ := H
  exact ⟨x, H.kp (fun p i => hm.kp (hS p i)) (hm.gd H.gd)⟩

theorem BRep.loc {w w' : World} {c : Col} {h : Hd} {st : St} (H : BRep w c h st) (hb : Below w.heap.size w w') : BRep w' c h st :=
  H.mv (Mv.of_below (S := fun _ => False) hb) (fun _ _ => id)

theorem BRep.gd {w : World} {c : Col} {h : Hd} {st : St} (H : BRep w c h st) : Good w c := H.choose_spec.gd

theorem AttrsAt.mv {S : Key → Prop} {w w' : World} {c c' : Col} {A : Option Addr} {l : List At} (H : AttrsAt w c A l) (hm : Mv S w c w' c') (hS : ∀ k, S k → k.1 ≠ 0) : AttrsAt w' c' A l := by
  refine ⟨H.1, fun ad had => ?_⟩
  have h1 := H.2 ad had
  by_cases hl : l = []
  · subst hl
    exact ⟨fun h => absurd rfl h, fun j u hu => by simp [attrCells] at hu⟩
  · have hc0 := h1.1 hl
    obtain ⟨u0, hu0⟩ : ∃ u0, (attrCells l)[0]? = some u0 := by
      cases l with
      | nil => exact absurd rfl hl
      | cons p l => exact ⟨_, by simp [attrCells]; rfl⟩
    have hlt : ad.block < w.heap.size := by
      have := block_lt_of_cell (h1.2 0 u0 hu0)
      simpa [Addr.add] using this
    have hns : ¬ S (c ad.block) := fun hs => hS _ hs hc0
    refine ⟨fun _ => by rw [hm.ext _ hlt]; exact hc0, fun j u hu => ?_⟩
    have hb : (ad.add j).block = ad.block := by unfold Addr.add; split <;> rfl
    rw [World.cell?_of_block (w := w) (by rw [hb]; exact hm.blk _ hlt hns)]
    exact h1.2 j u hu

theorem AttrsAt.loc {w w' : World} {c : Col} {A : Option Addr} {l : List At} (H : AttrsAt w c A l) (hb : Below w.heap.size w w') : AttrsAt w' c A l :=
  H.mv (Mv.of_below (S := fun _ => False) hb) (fun _ h => h.elim)

/-- A box of the call's own: a block of nobody's that is known whole. -/
def Box (w : World) (c : Col) (g : Nat) (t : TypeId) (cs : List Value) : Prop := (c g).1 = 0 ∧ w.heap[g]? = some (.cells cs.toArray t (0, 0))

theorem Box.mv {S : Key → Prop} {w w' : World} {c c' : Col} {g : Nat} {t : TypeId} {cs : List Value} (H : Box w c g t cs) (hm : Mv S w c w' c') (hS : ∀ k, S k → k.1 ≠ 0) : Box w' c' g t cs :=
  ⟨by rw [hm.ext g (lt_of_heap H.2)]; exact H.1, (hm.blk g (lt_of_heap H.2) (fun hs => hS _ hs H.1)).trans H.2⟩
theorem Box.loc {w w' : World} {c : Col} {g : Nat} {t : TypeId} {cs : List Value} (H : Box w c g t cs) (hb : Below w.heap.size w w') : Box w' c g t cs :=
  H.mv (Mv.of_below (S := fun _ => False) hb) (fun _ h => h.elim)
theorem Box.new {w : World} {c : Col} (hg : Good w c) (t : TypeId) (cs : List Value) : Box (w.alloc (.cells cs.toArray t)) c w.heap.size t cs :=
  ⟨hg _ (Nat.le_refl _), heap_alloc_new w _⟩
theorem Box.cell {w : World} {c : Col} {g : Nat} {t : TypeId} {cs : List Value} (H : Box w c g t cs) (i : Nat) : w.cell? ⟨g, i, none⟩ = cs[i]? := by
  rw [cell_of_row w g i _ t (0, 0) H.2]; simp
theorem Box.lt {w : World} {c : Col} {g : Nat} {t : TypeId} {cs : List Value} (H : Box w c g t cs) : g < w.heap.size := lt_of_heap H.2
theorem Box.frozen {w : World} {c : Col} {g : Nat} {t : TypeId} {cs : List Value} (H : Box w c g t cs) (i : Nat) : w.frozen? ⟨g, i, none⟩ = false := frozen_of_row w g i _ t H.2

theorem Box.alloc {w : World} {c : Col} {g : Nat} {t : TypeId} {cs : List Value} (H : Box w c g t cs) (o : Obj) : Box (w.alloc o) c g t cs :=
  ⟨H.1, (Below.heap_alloc w o g H.lt).trans H.2⟩
theorem Box.drew {w : World} {c : Col} {g : Nat} {t : TypeId} {cs : List Value} (H : Box w c g t cs) : Box w.drew c g t cs := H

/-- A block that is known whole. -/
def HB (w : World) (g : Nat) (t : TypeId) (cs : List Value) : Prop := w.heap[g]? = some (.cells cs.toArray t (0, 0))
theorem HB.lt {w : World} {g : Nat} {t : TypeId} {cs : List Value} (H : HB w g t cs) : g < w.heap.size := lt_of_heap H
theorem HB.new (w : World) (t : TypeId) (cs : List Value) : HB (w.alloc (.cells cs.toArray t)) w.heap.size t cs := heap_alloc_new w _
theorem HB.at_ {w : World} {g : Nat} {t : TypeId} {cs : List Value} (hg : g = w.heap.size) : HB (w.alloc (.cells cs.toArray t)) g t cs := by
  subst hg
  exact HB.new w t cs
theorem HB.node {w : World} {g : Nat} {x : NdC} (H : HB w g 58 x.cells) :
    w.cell? ⟨g, 0, none⟩ = some (.int .i64 x.nd.kind) ∧ w.cell? ⟨g, 1, none⟩ = some (.string x.nd.name) ∧ w.cell? ⟨g, 2, none⟩ = some (.string x.nd.text) ∧
    w.cell? ⟨g, 3, none⟩ = some (.int .i64 x.nd.space) ∧ w.cell? ⟨g, 4, none⟩ = some (.slice x.aA x.nd.attrs.length x.acap) ∧ w.cell? ⟨g, 5, none⟩ = some (.bool x.nd.dup) ∧
    w.cell? ⟨g, 6, none⟩ = some (.int .i64 x.nd.parent) ∧ w.cell? ⟨g, 7, none⟩ = some (.int .i64 x.nd.content) ∧ w.cell? ⟨g, 8, none⟩ = some (.slice x.kA x.nd.kids.length x.kcap) ∧
    w.cell? ⟨g, 9, none⟩ = some (.int .i64 x.nd.frm) ∧ w.cell? ⟨g, 10, none⟩ = some (.int .i64 x.nd.to_) := by
  have hc : ∀ i, w.cell? ⟨g, i, none⟩ = x.cells[i]? := fun i => by rw [cell_of_row w g i _ 58 (0, 0) H]; simp
  exact ⟨hc 0, hc 1, hc 2, hc 3, hc 4, hc 5, hc 6, hc 7, hc 8, hc 9, hc 10⟩
theorem HB.alloc {w : World} {g : Nat} {t : TypeId} {cs : List Value} (H : HB w g t cs) (o : Obj) : HB (w.alloc o) g t cs := (Below.heap_alloc w o g H.lt).trans H
theorem HB.drew {w : World} {g : Nat} {t : TypeId} {cs : List Value} (H : HB w g t cs) : HB w.drew g t cs := H
theorem HB.below {w w' : World} {g : Nat} {t : TypeId} {cs : List Value} (H : HB w g t cs) (hb : Below w.heap.size w w') : HB w' g t cs := (hb.block g H.lt).trans H
theorem HB.cell {w : World} {g : Nat} {t : TypeId} {cs : List Value} (H : HB w g t cs) (i : Nat) : w.cell? ⟨g, i, none⟩ = cs[i]? := by
  rw [cell_of_row w g i _ t (0, 0) H]; simp
theorem HB.frozen {w : World} {g : Nat} {t : TypeId} {cs : List Value} (H : HB w g t cs) (i : Nat) : w.frozen? ⟨g, i, none⟩ = false := frozen_of_row w g i _ t H
theorem HB.setOther {w : World} {g : Nat} {t : TypeId} {cs : List Value} (H : HB w g t cs) {a : Addr} (h : g ≠ a.block) (v : Value) : HB (w.setCell a v) g t cs := (heap_setCell_other w a g v h).trans H
theorem HB.set_ {w : World} {g : Nat} {t : TypeId} {cs : List Value} (H : HB w g t cs) (i : Nat) (v : Value) : HB (w.setCell ⟨g, i, none⟩ v) g t (cs.set i v) := by
  unfold HB
  rw [heap_setCell_same w g i _ t v H]
  simp
theorem HB.box {w : World} {c : Col} {g : Nat} {t : TypeId} {cs : List Value} (H : HB w g t cs) (hc : (c g).1 = 0) : Box w c g t cs := ⟨hc, H⟩

theorem HB.tok {w : World} {g : Nat} {t : Tok} (H : HB w g 24 t.cells) :
    w.cell? ⟨g, 0, none⟩ = some (.int .i64 t.kind) ∧ w.cell? ⟨g, 1, none⟩ = some (.string t.name) ∧ w.cell? ⟨g, 2, none⟩ = some (.string t.text) ∧
    w.cell? ⟨g, 3, none⟩ = some (.slice t.aA t.attrs.length t.acap) ∧ w.cell? ⟨g, 4, none⟩ = some (.bool t.dup) ∧ w.cell? ⟨g, 5, none⟩ = some (.bool t.self) ∧
    w.cell? ⟨g, 6, none⟩ = some (.bool t.quirks) ∧ w.cell? ⟨g, 7, none⟩ = some (.int .i64 t.frm) ∧ w.cell? ⟨g, 8, none⟩ = some (.int .i64 t.to_) :=
  ⟨H.cell 0, H.cell 1, H.cell 2, H.cell 3, H.cell 4, H.cell 5, H.cell 6, H.cell 7, H.cell 8⟩

/-- Of nobody's side: the steps of a call that makes boxes and calls what is of nobody's side. -/
theorem below_step {a b d : World} (h : Below a.heap.size a b) (k : Below b.heap.size b d) : Below a.heap.size a d := h.trans (k.mono h.size)
theorem below_alloc {a b : World} (h : Below a.heap.size a b) (o : Obj) : Below a.heap.size a (b.alloc o) := h.alloc h.size o
theorem below_drew {a b : World} (h : Below a.heap.size a b) : Below a.heap.size a b.drew := h.drew

theorem BRep.sd {w : World} {c : Col} {h : Hd} {st : St} (H : BRep w c h st) : h.sd ≠ 0 := H.choose_spec.sd
theorem BRep.pr {w : World} {c : Col} {h : Hd} {st : St} (H : BRep w c h st) (k : Key) : Pr h k → k.1 ≠ 0 := fun e => by unfold Pr at e; rw [e]; exact H.sd

end Go.Proofs.YtjmlkmlbhfkhbaaGreatDoor
