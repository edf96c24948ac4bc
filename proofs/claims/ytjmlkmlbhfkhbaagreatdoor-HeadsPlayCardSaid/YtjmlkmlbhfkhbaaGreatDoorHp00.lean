/-
  Words for memory: blocks of the heap carry a ghost colour; a row of cells that a slice owns; what a call may turn.
  append onto a row of a colour: where the row then lies, and what has turned.
-/
import Derived.WalkKit
import Derived.WalkLawsBesides
import Derived.WalkSpells
import Derived.Lib.Hide
import Derived.Deep.RegionHeld3
import Derived.Deep.AppendLies
import Derived.Deep.QuietTactic
import Derived.BigQuiet
import Derived.Deep.DeepCutAuto
import Derived.Deep.DeepFit
set_option linter.unusedSimpArgs false
set_option linter.unusedVariables false
namespace Go.Proofs.YtjmlkmlbhfkhbaaGreatDoor
open Go Go.RowKit

/-- A colour: side (0: nobody's, 1: the program's builder, 2: the reference's state), part, index. -/
abbrev Key := Nat × Nat × Nat
abbrev Col := Nat → Key

def Good (w : World) (c : Col) : Prop := ∀ g, w.heap.size ≤ g → (c g).1 = 0

/-- From (w, c) to (w', c'): only blocks whose colour is in S, and new ones, have turned. -/
structure Mv (S : Key → Prop) (w : World) (c : Col) (w' : World) (c' : Col) : Prop where
  os : w'.os = w.os
  tape : w'.tape = w.tape
  output : w'.output = w.output
  size : w.heap.size ≤ w'.heap.size
  ext : ∀ g, g < w.heap.size → c' g = c g
  blk : ∀ g, g < w.heap.size → ¬ S (c g) → w'.heap[g]? = w.heap[g]?
  gd : Good w c → Good w' c'

theorem Mv.refl (S : Key → Prop) (w : World) (c : Col) : Mv S w c w c := ⟨rfl, rfl, rfl, Nat.le_refl _, fun _ _ => rfl, fun _ _ _ => rfl, id⟩

theorem Mv.trans {S : Key → Prop} {w w1 w2 : World} {c c1 c2 : Col} (h : Mv S w c w1 c1) (k : Mv S w1 c1 w2 c2) : Mv S w c w2 c2 :=
  ⟨k.os.trans h.os, k.tape.trans h.tape, k.output.trans h.output, Nat.le_trans h.size k.size,
    fun g hg => (k.ext g (Nat.lt_of_lt_of_le hg h.size)).trans (h.ext g hg),
    fun g hg hs => (k.blk g (Nat.lt_of_lt_of_le hg h.size) (by rw [h.ext g hg]; exact hs)).trans (h.blk g hg hs), fun x => k.gd (h.gd x)⟩

theorem Mv.mono {S T : Key → Prop} {w w1 : World} {c c1 : Col} (h : Mv S w c w1 c1) (hst : ∀ k, S k → T k) : Mv T w c w1 c1 :=
  ⟨h.os, h.tape, h.output, h.size, h.ext, fun g hg hs => h.blk g hg (fun x => hs (hst _ x)), h.gd⟩

theorem Mv.of_below {S : Key → Prop} {w w1 : World} {c : Col} (h : Below w.heap.size w w1) : Mv S w c w1 c :=
  ⟨h.os, h.tape, h.output, h.size, fun _ _ => rfl, fun g hg _ => h.block g hg, fun hg g hs => hg g (Nat.le_trans h.size hs)⟩

theorem Mv.alloc {S : Key → Prop} {w w1 : World} {c c1 : Col} (h : Mv S w c w1 c1) (o : Obj) : Mv S w c (w1.alloc o) c1 :=
  h.trans (Mv.of_below ((Below.refl _ _).alloc (Nat.le_refl _) o))
theorem Mv.drew {S : Key → Prop} {w w1 : World} {c c1 : Col} (h : Mv S w c w1 c1) : Mv S w c w1.drew c1 :=
  h.trans (Mv.of_below (Below.refl _ _).drew)
theorem Mv.below {S : Key → Prop} {w w1 w2 : World} {c c1 : Col} (h : Mv S w c w1 c1) (k : Below w1.heap.size w1 w2) : Mv S w c w2 c1 := h.trans (Mv.of_below k)

theorem Mv.setCell {S : Key → Prop} {w : World} {c : Col} {a : Addr} (hs : S (c a.block)) (v : Value) : Mv S w c (w.setCell a v) c :=
  ⟨rfl, rfl, rfl, by simp [World.setCell], fun _ _ => rfl, fun g _ hns => heap_setCell_other w a g v (fun e => hns (by rw [e]; exact hs)),
    fun hg g hsz => hg g (by simpa [World.setCell] using hsz)⟩

/-- A store into a block of nobody's. -/
theorem Mv.setCell' {S : Key → Prop} {w w1 : World} {c c1 : Col} (h : Mv S w c w1 c1) {a : Addr} (hb : w.heap.size ≤ a.block) (v : Value) : Mv S w c (w1.setCell a v) c1 :=
  ⟨h.os, h.tape, h.output, by simpa [World.setCell] using h.size, h.ext, fun g hg hns => (heap_setCell_other w1 a g v (by omega)).trans (h.blk g hg hns),
    fun hgd g hsz => h.gd hgd g (by simpa [World.setCell] using hsz)⟩

/-- A new block is given a colour. -/
def paint (c : Col) (g : Nat) (k : Key) : Col := fun i => if i = g then k else c i
theorem paint_at (c : Col) (g : Nat) (k : Key) : paint c g k g = k := by simp [paint]
theorem paint_other (c : Col) {g i : Nat} (k : Key) (h : i ≠ g) : paint c g k i = c i := by simp [paint, h]

theorem Mv.alloc_paint {S : Key → Prop} (w : World) (c : Col) (o : Obj) (k : Key) : Mv S w c (w.alloc o) (paint c w.heap.size k) :=
  ⟨rfl, rfl, rfl, by simp, fun g hg => paint_other c k (Nat.ne_of_lt hg), fun g hg _ => Below.heap_alloc w o g hg,
    fun hg g hsz => by
      simp only [World.size_alloc] at hsz
      rw [paint_other c k (by omega)]
      exact hg g (by omega)⟩

/-- Blocks of one colour stand, and keep it. -/
def Kp (k : Key) (w : World) (c : Col) (w' : World) (c' : Col) : Prop := ∀ g, g < w.heap.size → c g = k → w'.heap[g]? = w.heap[g]? ∧ c' g = k

theorem Mv.kp {S : Key → Prop} {w w' : World} {c c' : Col} (h : Mv S w c w' c') {k : Key} (hk : ¬ S k) : Kp k w c w' c' :=
  fun g hg e => ⟨h.blk g hg (by rw [e]; exact hk), (h.ext g hg).trans e⟩

theorem Kp.trans {k : Key} {w w1 w2 : World} {c c1 c2 : Col} (h : Kp k w c w1 c1) (hsz : w.heap.size ≤ w1.heap.size) (h2 : Kp k w1 c1 w2 c2) : Kp k w c w2 c2 :=
  fun g hg e => ⟨((h2 g (Nat.lt_of_lt_of_le hg hsz) (h g hg e).2).1).trans (h g hg e).1, (h2 g (Nat.lt_of_lt_of_le hg hsz) (h g hg e).2).2⟩

/-- A whole block of a colour. -/
def Blk (w : World) (c : Col) (k : Key) (g : Nat) (t : TypeId) (cs : List Value) : Prop := c g = k ∧ w.heap[g]? = some (.cells cs.toArray t (0, 0))

section
variable {w w' : World} {c c' : Col} {k : Key} {g : Nat} {t : TypeId} {cs : List Value}
theorem lt_of_heap {w : World} {g : Nat} {o : Obj} (h : w.heap[g]? = some o) : g < w.heap.size := by
  rcases Nat.lt_or_ge g w.heap.size with hlt | hge
  · exact hlt
  · rw [Array.getElem?_eq_none hge] at h; cases h
theorem Blk.lt (h : Blk w c k g t cs) : g < w.heap.size := lt_of_heap h.2
theorem Blk.cell (h : Blk w c k g t cs) (i : Nat) : w.cell? ⟨g, i, none⟩ = cs[i]? := by
  rw [cell_of_row w g i _ t (0, 0) h.2]; simp
theorem Blk.frozen (h : Blk w c k g t cs) (i : Nat) : w.frozen? ⟨g, i, none⟩ = false := frozen_of_row w g i _ t h.2
theorem Blk.kp (h : Blk w c k g t cs) (hk : Kp k w c w' c') : Blk w' c' k g t cs :=
  ⟨(hk g h.lt h.1).2, ((hk g h.lt h.1).1).trans h.2⟩
theorem Blk.set_ (h : Blk w c k g t cs) (i : Nat) (v : Value) : Blk (w.setCell ⟨g, i, none⟩ v) c k g t (cs.set i v) := by
  refine ⟨h.1, ?_⟩
  rw [heap_setCell_same w g i _ t v h.2]
  simp
theorem Blk.new (w : World) (c : Col) (k : Key) (t : TypeId) (cs : List Value) : Blk (w.alloc (.cells cs.toArray t)) (paint c w.heap.size k) k w.heap.size t cs :=
  ⟨paint_at _ _ _, heap_alloc_new w _⟩
end

/-- A row of cells that a slice value owns. -/
def RowOk (w : World) (c : Col) (k : Key) (e : TypeId) (size : Nat) (A : Option Addr) (n cap : Nat) (xs : List Value) : Prop :=
  xs.length = n * size ∧ ((n = 0 ∧ cap = 0) ∨
    ∃ g cur, A = some ⟨g, 0, none⟩ ∧ c g = k ∧ w.heap[g]? = some (.cells cur e (0, 0)) ∧ n ≤ cap ∧ cap ≤ maxLen ∧ cur.size = cap * size ∧ cur.toList.take (n * size) = xs)

section
variable {w w' : World} {c c' : Col} {k : Key} {e : TypeId} {size : Nat} {A : Option Addr} {n cap : Nat} {xs : List Value}
theorem RowOk.kp (h : RowOk w c k e size A n cap xs) (hk : Kp k w c w' c') : RowOk w' c' k e size A n cap xs := by
  refine ⟨h.1, ?_⟩
  rcases h.2 with h0 | ⟨g, cur, hA, hc, hg, rest⟩
  · exact .inl h0
  · have := hk g (lt_of_heap hg) hc
    exact .inr ⟨g, cur, hA, this.2, this.1.trans hg, rest⟩
theorem RowOk.none_ : RowOk w c k e size A 0 0 [] := ⟨by simp, .inl ⟨rfl, rfl⟩⟩
theorem RowOk.le (h : RowOk w c k e size A n cap xs) : n ≤ cap := by
  rcases h.2 with ⟨rfl, rfl⟩ | ⟨g, cur, _, _, _, h1, _⟩
  · exact Nat.le_refl _
  · exact h1
theorem RowOk.capMax (h : RowOk w c k e size A n cap xs) : cap ≤ maxLen := by
  rcases h.2 with ⟨rfl, rfl⟩ | ⟨g, cur, _, _, _, _, h1, _⟩
  · exact Nat.zero_le _
  · exact h1
theorem RowOk.at_ (h : RowOk w c k e size A n cap xs) (hn : 0 < n) : ∃ g, A = some ⟨g, 0, none⟩ ∧ c g = k ∧ g < w.heap.size ∧ (∀ j u, xs[j]? = some u → w.cell? ⟨g, j, none⟩ = some u) ∧ (∀ j, w.frozen? ⟨g, j, none⟩ = false) := by
  rcases h.2 with ⟨h0, _⟩ | ⟨g, cur, hA, hc, hg, h1, h2, h3, h4⟩
  · omega
  · refine ⟨g, hA, hc, lt_of_heap hg, fun j u hu => ?_, fun j => frozen_of_row w g j cur e hg⟩
    rw [cell_of_row w g j cur e (0, 0) hg]
    rw [← h4, List.getElem?_take] at hu
    split at hu
    · simpa using hu
    · cases hu
/-- At a known block. -/
theorem RowOk.cell {g : Nat} (h : RowOk w c k e size (some ⟨g, 0, none⟩) n cap xs) {j : Nat} {u : Value} (hu : xs[j]? = some u) : w.cell? ⟨g, j, none⟩ = some u := by
  have hl : j < xs.length := (List.getElem?_eq_some_iff.1 hu).1
  have hn : 0 < n := by
    rcases Nat.eq_zero_or_pos n with h0 | h0
    · have := h.1; rw [h0] at this; omega
    · exact h0
  obtain ⟨g', hA, _, _, hc, _⟩ := h.at_ hn
  simp only [Option.some.injEq, Addr.mk.injEq, and_true] at hA
  subst hA
  exact hc j u hu
/-- A shorter one: the slice is cut. -/
theorem RowOk.cut (h : RowOk w c k e size A n cap xs) {m : Nat} (hm : m ≤ n) : RowOk w c k e size A m cap (xs.take (m * size)) := by
  have hms : m * size ≤ n * size := Nat.mul_le_mul_right _ hm
  refine ⟨by rw [List.length_take, h.1]; omega, ?_⟩
  rcases h.2 with ⟨h0, h1⟩ | ⟨g, cur, hA, hc, hg, h1, h2, h3, h4⟩
  · exact .inl ⟨by omega, h1⟩
  · refine .inr ⟨g, cur, hA, hc, hg, by omega, h2, h3, ?_⟩
    rw [← h4, List.take_take, Nat.min_eq_left hms]
/-- One cell of it is written. -/
theorem RowOk.set_ {g : Nat} (h : RowOk w c k e size (some ⟨g, 0, none⟩) n cap xs) {j : Nat} (hj : j < xs.length) (v : Value) :
    RowOk (w.setCell ⟨g, j, none⟩ v) c k e size (some ⟨g, 0, none⟩) n cap (xs.set j v) := by
  refine ⟨by simpa using h.1, ?_⟩
  rcases h.2 with ⟨h0, h1⟩ | ⟨g', cur, hA, hc, hg, h1, h2, h3, h4⟩
  · have := h.1; rw [h0] at this; omega
  · simp only [Option.some.injEq, Addr.mk.injEq, and_true] at hA
    subst hA
    refine .inr ⟨g, cur.setIfInBounds j v, rfl, hc, heap_setCell_same w g j cur e v hg, h1, h2, by simpa using h3, ?_⟩
    rw [Array.toList_setIfInBounds, List.take_set, h4]
/-- The kit's own word for it. -/
theorem RowOk.own {g : Nat} (h : RowOk w c k e size (some ⟨g, 0, none⟩) n cap xs) (hn : 0 < cap) : w.ownsRow 0 e size (.slice (some ⟨g, 0, none⟩) n cap) n xs := by
  refine ⟨h.1, ?_⟩
  rcases h.2 with ⟨_, h0⟩ | ⟨g', cur, hA, hc, hg, h1, h2, h3, h4⟩
  · omega
  · exact .inr ⟨g', cap, cur, by rw [hA], Nat.zero_le _, hg, h1, h2, h3, h4⟩
end

theorem kp_setCell {w : World} {c : Col} {a : Addr} {k : Key} (h : c a.block ≠ k) (v : Value) : Kp k w c (w.setCell a v) c :=
  fun g _ e => ⟨heap_setCell_other w a g v (fun x => h (by rw [← x]; exact e)), e⟩
theorem kp_below {w w' : World} {c : Col} {k : Key} (h : Below w.heap.size w w') : Kp k w c w' c := fun g hg e => ⟨h.block g hg, e⟩
theorem kp_alloc_paint (w : World) (c : Col) (o : Obj) (k k' : Key) : Kp k w c (w.alloc o) (paint c w.heap.size k') :=
  fun g hg e => ⟨Below.heap_alloc w o g hg, by rw [paint_other c k' (Nat.ne_of_lt hg)]; exact e⟩

end Go.Proofs.YtjmlkmlbhfkhbaaGreatDoor
namespace Go.Proofs.YtjmlkmlbhfkhbaaGreatDoor
open Go Go.RowKit

section
variable {P : Program}

theorem run_append_row (w : World) (c : Col) (k : Key) (t ty e : TypeId) (i : TypeInfo) (z : Value) (size bytes : Nat) (ht : P.underlying t = some (.slice e)) (hi : P.info? e = some i) (hz : i.zero = some z)
    (hsize : i.size = size) (hby : i.bytes = bytes) (hzs : z.cells.size = size) (hsz : 0 < size)
    (A : Option Addr) (n cap : Nat) (xs : List Value) (hrow : RowOk w c k e size A n cap xs)
    (B : Option Addr) (m cc : Nat) (news : List Value) (hl : news.length = m * size) (hB : B = none → m = 0) (hnews : ∀ ad, B = some ad → ∀ j u, news[j]? = some u → w.cell? (ad.add j) = some u) (h1 : ∀ u ∈ news, u.oneCell' = true)
    (h63 : n + m ≤ maxLen) (hbytes : (n + m) * bytes ≤ 140737488355328) :
    ∃ A' cap' w' c', (Builtin.append_ #[t, t] ty #[.slice A n cap, .slice B m cc]).run P w = .ok (.slice A' (n + m) cap') w' ∧ RowOk w' c' k e size A' (n + m) cap' (xs ++ news) ∧ Mv (· = k) w c w' c' := by
  subst hsize
  subst hby
  have hsmall : n + m ≤ 9223372036854775807 := by simp only [maxLen] at h63; omega
  have hlen : (xs ++ news).length = (n + m) * i.size := by rw [List.length_append, hrow.1, hl, Nat.add_mul]
  by_cases hm : m = 0
  · subst hm
    have hn : news = [] := List.eq_nil_of_length_eq_zero (by simpa using hl)
    subst hn
    refine ⟨A, cap, w, c, ?_, by simpa using hrow, Mv.refl _ _ _⟩
    have hle := hrow.le
    cases A <;> cases B <;> simp [Builtin.append_, run_underlying ht, sizeOf, typeInfo, hi, Builtin.lenOf, Builtin.firstCells, hle, storeCells, loadCells, loadCellsFrom]
  · obtain ⟨ad, rfl⟩ : ∃ ad, B = some ad := by
      cases B with
      | none => exact absurd (hB rfl) hm
      | some ad => exact ⟨ad, rfl⟩
    have hnews' := hnews ad rfl
    have grown : ∀ (old : Nat),
        RowOk (w.drew.alloc (.cells (xs.toArray ++ news.toArray ++ Builtin.zeroCells z.cells (grownCap w (n + m) old e - (n + m))) e)) (paint c w.heap.size k) k e i.size
          (some ⟨w.heap.size, 0, none⟩) (n + m) (grownCap w (n + m) old e) (xs ++ news) ∧
        Mv (· = k) w c (w.drew.alloc (.cells (xs.toArray ++ news.toArray ++ Builtin.zeroCells z.cells (grownCap w (n + m) old e - (n + m))) e)) (paint c w.heap.size k) := by
      intro old
      have hge := grownCap_ge w (n + m) old e
      have hcm : grownCap w (n + m) old e ≤ maxLen := grownCap_le_maxLen w (n + m) old e h63
      refine ⟨⟨hlen, .inr ⟨w.heap.size, _, rfl, paint_at _ _ _, heap_alloc_new w.drew _, hge, hcm, ?_, ?_⟩⟩, ?_⟩
      · simp only [Array.size_append, List.size_toArray, size_zeroCells, hzs, hrow.1, hl, ← Nat.add_mul]
        congr 1
        omega
      · simp only [Array.toList_append, List.append_assoc]
        rw [← List.append_assoc, ← hlen]
        exact List.take_left
      · exact (Mv.refl (· = k) w c).drew.trans (Mv.alloc_paint w.drew c _ k)
    rcases hrow.2 with ⟨rfl, rfl⟩ | ⟨g, cur, rfl, hc, hg, hnc, hcm, hcs, htake⟩
    · have hx : xs = [] := List.eq_nil_of_length_eq_zero (by simpa using hrow.1)
      subst hx
      have hgr := grown 0
      cases A with
      | none =>
        have hr := run_append_nil (P := P) w t ty e i z ht hi hz ad m cc news hl hnews' (by omega) (by omega) (by have hb := hbytes; simp only [Nat.zero_add] at hb; omega)
        simp only [Nat.zero_add, List.nil_append, Array.empty_append] at hgr ⊢
        exact ⟨_, _, _, _, hr, hgr.1, hgr.2⟩
      | some b =>
        have hr := run_append_grow (P := P) w t ty e i z ht hi hz b 0 0 [] (by simp) (by simp) ad m cc news hl hnews' (by omega) (by omega) (by
          have hb := hbytes
          simp only [Nat.zero_add] at hb ⊢
          rw [nextslicecap_zero (by omega)]; omega)
        simp only [Nat.zero_add, List.nil_append, Array.empty_append] at hgr hr ⊢
        exact ⟨_, _, _, _, hr, hgr.1, hgr.2⟩
    · by_cases hroom : n + m ≤ cap
      · have hfit : n * i.size + news.length ≤ cur.size := by rw [hl, hcs, ← Nat.add_mul]; exact Nat.mul_le_mul_right _ hroom
        have hr := run_append_room (P := P) w t ty e i ht hi g n cap cur hg ad m cc news hl hnews' h1 hroom hfit
        refine ⟨_, _, _, c, hr, ⟨hlen, .inr ⟨g, _, rfl, hc, setRow_heap w g cur _ e _ hg, hroom, hcm, ?_, ?_⟩⟩,
          ⟨rfl, rfl, rfl, by simp, fun _ _ => rfl, fun g' _ hk => setRow_other w g g' _ (fun x => hk (by rw [x]; exact hc)), fun hgd g' hs => hgd g' (by simpa using hs)⟩⟩
        · simp only [List.size_toArray, List.length_append, List.length_take, List.length_drop, Array.length_toList]
          omega
        · rw [htake, ← hlen]
          exact List.take_left
      · have holds : ∀ j u, xs[j]? = some u → w.cell? ((⟨g, 0, none⟩ : Addr).add j) = some u := by
          intro j u hu
          have hadd : (⟨g, 0, none⟩ : Addr).add j = ⟨g, j, none⟩ := by unfold Addr.add; split <;> simp_all
          rw [hadd]
          exact hrow.cell hu
        have hr := run_append_grow (P := P) w t ty e i z ht hi hz ⟨g, 0, none⟩ n cap xs hrow.1 holds ad m cc news hl hnews' (by omega) (by omega) (growslice_fits (by omega) hbytes)
        have hgr := grown cap
        exact ⟨_, _, _, _, hr, hgr.1, hgr.2⟩

theorem wp_append_row {o : Oper} {a : Act} {K : Act → World → Prop} {Q : Exit → Act → World → Prop} (w : World) (c : Col) (k : Key) (s x : Operand) (t : TypeId)
    (ho : o.op = .call { callee := .builtin .append, args := #[s, x], argTypes := #[t, t] })
    (e : TypeId) (i : TypeInfo) (z : Value) (size bytes : Nat) (ht : P.underlying t = some (.slice e)) (hi : P.info? e = some i) (hz : i.zero = some z)
    (hsize : i.size = size) (hby : i.bytes = bytes) (hzs : z.cells.size = size) (hsz : 0 < size)
    (A : Option Addr) (n cap : Nat) (xs : List Value) (hs : a.eval s = .slice A n cap) (hrow : RowOk w c k e size A n cap xs)
    (B : Option Addr) (m cc : Nat) (news : List Value) (hx : a.eval x = .slice B m cc) (hl : news.length = m * size) (hB : B = none → m = 0) (hnews : ∀ ad, B = some ad → ∀ j u, news[j]? = some u → w.cell? (ad.add j) = some u) (h1 : ∀ u ∈ news, u.oneCell' = true)
    (h63 : n + m ≤ maxLen) (hbytes : (n + m) * bytes ≤ 140737488355328)
    (h : ∀ A' cap' w' c', RowOk w' c' k e size A' (n + m) cap' (xs ++ news) → Mv (· = k) w c w' c' → K (a.put o.dst (.slice A' (n + m) cap')) w') : o.wp P a w K Q := by
  obtain ⟨A', cap', w', c', hr, h2, h3⟩ := run_append_row (P := P) w c k t o.type e i z size bytes ht hi hz hsize hby hzs hsz A n cap xs hrow B m cc news hl hB hnews h1 h63 hbytes
  unfold Oper.wp execOp
  simp only [ho, resolve, invoke, builtin, Sem.run_bind, Sem.run_pure, Result.andThen_ok, List.map_toArray, List.map_cons, List.map_nil, hs, hx, hr]
  exact h A' cap' w' c' h2 h3

/-- At a plain region's list. -/
theorem wpList_append_row {ops : Array Oper} {rest : List Oper} {o : Oper} {a : Act} {Q : Exit → Act → World → Prop} (w : World) (c : Col) (k : Key) (hgd : o.guard = none) (s x : Operand) (t : TypeId)
    (ho : o.op = .call { callee := .builtin .append, args := #[s, x], argTypes := #[t, t] })
    (e : TypeId) (i : TypeInfo) (z : Value) (size bytes : Nat) (ht : P.underlying t = some (.slice e)) (hi : P.info? e = some i) (hz : i.zero = some z)
    (hsize : i.size = size) (hby : i.bytes = bytes) (hzs : z.cells.size = size) (hsz : 0 < size)
    (A : Option Addr) (n cap : Nat) (xs : List Value) (hs : a.eval s = .slice A n cap) (hrow : RowOk w c k e size A n cap xs)
    (B : Option Addr) (m cc : Nat) (news : List Value) (hx : a.eval x = .slice B m cc) (hl : news.length = m * size) (hB : B = none → m = 0) (hnews : ∀ ad, B = some ad → ∀ j u, news[j]? = some u → w.cell? (ad.add j) = some u) (h1 : ∀ u ∈ news, u.oneCell' = true)
    (h63 : n + m ≤ maxLen) (hbytes : (n + m) * bytes ≤ 140737488355328)
    (h : ∀ A' cap' w' c', RowOk w' c' k e size A' (n + m) cap' (xs ++ news) → Mv (· = k) w c w' c' → wpList P ops Q rest (a.put o.dst (.slice A' (n + m) cap')) w') : wpList P ops Q (o :: rest) a w :=
  wpList_plain hgd fun _ hK => wp_append_row w c k s x t ho e i z size bytes ht hi hz hsize hby hzs hsz A n cap xs hs hrow B m cc news hx hl hB hnews h1 h63 hbytes fun A' cap' w' c' h2 h3 => hK _ _ (h A' cap' w' c' h2 h3)

/-- At a step of a region that draws its order. -/
theorem step_append_row {ops : Array Oper} {o : Oper} {a : Act} {K : Act → World → Prop} {Q : Exit → Act → World → Prop} {E : Prop} (w : World) (c : Col) (k : Key) (hgd : o.guard = none) (s x : Operand) (t : TypeId)
    (ho : o.op = .call { callee := .builtin .append, args := #[s, x], argTypes := #[t, t] })
    (e : TypeId) (i : TypeInfo) (z : Value) (size bytes : Nat) (ht : P.underlying t = some (.slice e)) (hi : P.info? e = some i) (hz : i.zero = some z)
    (hsize : i.size = size) (hby : i.bytes = bytes) (hzs : z.cells.size = size) (hsz : 0 < size)
    (A : Option Addr) (n cap : Nat) (xs : List Value) (hs : a.eval s = .slice A n cap) (hrow : RowOk w c k e size A n cap xs)
    (B : Option Addr) (m cc : Nat) (news : List Value) (hx : a.eval x = .slice B m cc) (hl : news.length = m * size) (hB : B = none → m = 0) (hnews : ∀ ad, B = some ad → ∀ j u, news[j]? = some u → w.cell? (ad.add j) = some u) (h1 : ∀ u ∈ news, u.oneCell' = true)
    (h63 : n + m ≤ maxLen) (hbytes : (n + m) * bytes ≤ 140737488355328)
    (h : ∀ A' cap' w' c', RowOk w' c' k e size A' (n + m) cap' (xs ++ news) → Mv (· = k) w c w' c' → K (a.put o.dst (.slice A' (n + m) cap')) w') :
    if Region.wanted o (yielded ops a.tmps) = true then Oper.wp P o a w K Q else E := by
  have hw : Region.wanted o (yielded ops a.tmps) = true := by simp [Region.wanted, hgd]
  rw [if_pos hw]
  exact wp_append_row w c k s x t ho e i z size bytes ht hi hz hsize hby hzs hsz A n cap xs hs hrow B m cc news hx hl hB hnews h1 h63 hbytes h
end
end Go.Proofs.YtjmlkmlbhfkhbaaGreatDoor
