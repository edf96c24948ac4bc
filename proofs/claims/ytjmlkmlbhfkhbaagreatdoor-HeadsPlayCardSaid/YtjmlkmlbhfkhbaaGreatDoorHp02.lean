/-
  The functions that ask what a token is.
  Belongs, of the program's.
  slices.Clone at attributes and at numbers; the program's closed facts on element types.
-/
import Derived.Test.YtjmlkmlbhfkhbaaGreatDoorProg
import Derived.Test.YtjmlkmlbhfkhbaaGreatDoorHp01
set_option linter.unusedSimpArgs false
set_option linter.unusedVariables false
namespace Go.Proofs.YtjmlkmlbhfkhbaaGreatDoor
open Go Go.RowKit

/-- The cells of a slice of strings that was laid for a call. -/
def Strs (w : World) (g : Nat) (ns : List Str) : Prop := ∀ j s, ns[j]? = some s → w.cell? ⟨g, j, none⟩ = some (.string s)

def eqS (s t : Str) : Bool := s.toList == t.toList
def inS (ns : List Str) (s : Str) : Bool := ns.any fun x => eqS s x
def idxOf (ns : List Str) (s : Str) : Int := match ns.findIdx? (fun x => eqS s x) with | some k => k | none => -1

theorem idxOf_at {ns : List Str} {s x : Str} {k : Nat} (hx : ns[k]? = some x) (he : (s.toList == x.toList) = true) (hne : ∀ j x, j < k → ns[j]? = some x → eqS s x = false) : idxOf ns s = k := by
  have hk := (List.getElem?_eq_some_iff.1 hx).1
  have : ns.findIdx? (fun x => eqS s x) = some k := by
    rw [List.findIdx?_eq_some_iff_getElem]
    refine ⟨hk, ?_, fun j hj => ?_⟩
    · rw [(List.getElem?_eq_some_iff.1 hx).2]; exact he
    · have := hne j ns[j] hj (List.getElem?_eq_getElem (by omega))
      simp [this]
  unfold idxOf
  rw [this]
theorem idxOf_none {ns : List Str} {s : Str} (hne : ∀ j x, j < ns.length → ns[j]? = some x → eqS s x = false) : idxOf ns s = -1 := by
  have : ns.findIdx? (fun x => eqS s x) = none := by
    rw [List.findIdx?_eq_none_iff]
    intro x hx
    obtain ⟨j, hj, hxj⟩ := List.getElem_of_mem hx
    exact hne j x hj (by rw [List.getElem?_eq_getElem hj, hxj])
  unfold idxOf
  rw [this]
theorem idxOf_ge (ns : List Str) (s : Str) : decide (0 ≤ idxOf ns s) = inS ns s := by
  unfold idxOf inS
  cases h : ns.findIdx? (fun x => eqS s x) with
  | none =>
    rw [List.findIdx?_eq_none_iff] at h
    have : ns.any (fun x => eqS s x) = false := by simpa using h
    simp [this]
  | some k =>
    rw [List.findIdx?_eq_some_iff_getElem] at h
    obtain ⟨hk, h1, _⟩ := h
    have : ns.any (fun x => eqS s x) = true := by
      simp only [List.any_eq_true]
      exact ⟨ns[k], List.getElem_mem hk, h1⟩
    simp [this]
theorem ret_int {k : IntKind} {a b : Int} (h : a = b) : Ending.returned (.int k a) = .returned (.int k b) := by rw [h]
theorem ret_bool {a b : Bool} (h : a = b) : Ending.returned (.bool a) = .returned (.bool b) := by rw [h]

theorem ne_succ {ns : List Str} {s x : Str} {k : Nat} (hx : ns[k]? = some x) (he : (s.toList == x.toList) = false) (hne : ∀ j x, j < k → ns[j]? = some x → eqS s x = false) : ∀ j x, j < k + 1 → ns[j]? = some x → eqS s x = false := by
  intro j y hj hy
  rcases Nat.lt_or_ge j k with h | h
  · exact hne j y h hy
  · obtain rfl : j = k := by omega
    rw [hx] at hy
    obtain rfl := Option.some.inj hy
    exact he

set_option maxHeartbeats 400000 in
theorem sIndex (w : World) (g cap : Nat) (ns : List Str) (s : Str) (hlen : ns.length ≤ 1000) (hs : Strs w g ns) :
    Calls Tryz.prog 164 #[.slice (some ⟨g, 0, none⟩) ns.length cap, .string s] w fun e w' => e = .returned (.int .i64 (idxOf ns s)) ∧ w = w' := by
  go_enter Tryz.func164, Tryz.ntmps164
  go_wp2
  go_loop [5, 8] (fun _ i => ∃ k : Nat, k ≤ ns.length ∧ i = .int .i64 k ∧ ∀ j x, j < k → ns[j]? = some x → eqS s x = false) (fun _ i => ns.length - (intOf i).toNat)
  case atStart => exact ⟨0, Nat.zero_le _, rfl, by omega⟩
  case round =>
    obtain ⟨k, hk, rfl, hne⟩ := hrel
    have HN := Lib.hid hne
    clear hne
    by_cases hlt : k < ns.length
    · obtain ⟨x, hx⟩ : ∃ x, ns[k]? = some x := ⟨ns[k], List.getElem?_eq_getElem hlt⟩
      have hc := hs k x hx
      have HX := Lib.hid hx
      clear hx
      go_wp2
      · go_ret
        exact ⟨ret_int (idxOf_at HX.out (by assumption) HN.out).symm, rfl⟩
      · go_round
        case rel => exact ⟨k + 1, by omega, by go_num, ne_succ HX.out (by assumption) HN.out⟩
        case measure => simp [intOf]; omega
    · go_wp2
      go_ret
      exact ⟨ret_int (idxOf_none (by have := HN.out; intro j x hj hx; exact this j x (by omega) hx)).symm, rfl⟩

set_option maxHeartbeats 400000 in
theorem sContains (w : World) (g cap : Nat) (ns : List Str) (s : Str) (hlen : ns.length ≤ 1000) (hs : Strs w g ns) :
    Calls Tryz.prog 130 #[.slice (some ⟨g, 0, none⟩) ns.length cap, .string s] w fun e w' => e = .returned (.bool (inS ns s)) ∧ w = w' := by
  go_enter Tryz.func130, Tryz.ntmps130
  go_wp2_with fail
  refine (sIndex w g cap ns s hlen hs).mono ?_
  rintro e w' ⟨rfl, rfl⟩
  go_wp2_with fail
  go_ret
  exact ⟨ret_bool (idxOf_ge ns s), rfl⟩

def startB (t : Tok) (ns : List Str) : Bool := decide (t.kind = 2) && inS ns t.name
def endB (t : Tok) (ns : List Str) : Bool := decide (t.kind = 3) && inS ns t.name

theorem Strs.alloc {w : World} {g : Nat} {ns : List Str} (h : Strs w g ns) (o : Obj) : Strs (w.alloc o) g ns := by
  intro j s hs
  have := h j s hs
  have hlt := block_lt_of_cell this
  rw [World.cell?_alloc_lt w o _ hlt]
  exact this
theorem Strs.mk_ {w : World} {g : Nat} (ns : List Str) (hg : g = w.heap.size) : Strs (w.alloc (.cells (ns.map Value.string).toArray 9)) g ns := by
  subst hg
  intro j s hs
  rw [cell_of_row _ _ j _ 9 (0, 0) (heap_alloc_new w _)]
  simp [hs]

set_option maxHeartbeats 400000 in
theorem hStart (w : World) (t : Tok) (g cap : Nat) (ns : List Str) (hlen : ns.length ≤ 1000) (hs : Strs w g ns) :
    Calls Tryz.prog 102 #[t.val, .slice (some ⟨g, 0, none⟩) ns.length cap] w fun e w' => e = .returned (.bool (startB t ns)) ∧ Below w.heap.size w w' := by
  unfold Tok.val Tok.cells
  have hs1 := hs.alloc (.cells t.cells.toArray 24)
  unfold Tok.cells at hs1
  go_enter Tryz.func102, Tryz.ntmps102
  by_cases hk : t.kind = 2
  · have hk' : (t.kind == 2) = true := by simp [hk]
    have HK := Lib.hid hk
    clear hk
    go_wp2_with fail
    refine (sContains _ g cap ns t.name hlen hs1).mono ?_
    rintro e w' ⟨rfl, rfl⟩
    go_wp2_with fail
    go_ret
    exact ⟨ret_bool (by simp [startB, HK.out]), (Below.refl _ _).alloc (Nat.le_refl _) _⟩
  · have hk' : (t.kind == 2) = false := by simp [hk]
    have HK := Lib.hid hk
    clear hk
    go_wp2_with fail
    go_ret
    exact ⟨ret_bool (by simp [startB, HK.out]), (Below.refl _ _).alloc (Nat.le_refl _) _⟩

set_option maxHeartbeats 400000 in
theorem hEnd (w : World) (t : Tok) (g cap : Nat) (ns : List Str) (hlen : ns.length ≤ 1000) (hs : Strs w g ns) :
    Calls Tryz.prog 103 #[t.val, .slice (some ⟨g, 0, none⟩) ns.length cap] w fun e w' => e = .returned (.bool (endB t ns)) ∧ Below w.heap.size w w' := by
  unfold Tok.val Tok.cells
  have hs1 := hs.alloc (.cells t.cells.toArray 24)
  unfold Tok.cells at hs1
  go_enter Tryz.func103, Tryz.ntmps103
  by_cases hk : t.kind = 3
  · have hk' : (t.kind == 3) = true := by simp [hk]
    have HK := Lib.hid hk
    clear hk
    go_wp2_with fail
    refine (sContains _ g cap ns t.name hlen hs1).mono ?_
    rintro e w' ⟨rfl, rfl⟩
    go_wp2_with fail
    go_ret
    exact ⟨ret_bool (by simp [endB, HK.out]), (Below.refl _ _).alloc (Nat.le_refl _) _⟩
  · have hk' : (t.kind == 3) = false := by simp [hk]
    have HK := Lib.hid hk
    clear hk
    go_wp2_with fail
    go_ret
    exact ⟨ret_bool (by simp [endB, HK.out]), (Below.refl _ _).alloc (Nat.le_refl _) _⟩

def strangeB (t : Tok) : Bool := decide (t.kind = 3) && !inS [⟨#[104, 101, 97, 100]⟩, ⟨#[98, 111, 100, 121]⟩, ⟨#[104, 116, 109, 108]⟩, ⟨#[98, 114]⟩] t.name

set_option maxHeartbeats 400000 in
theorem hStrange (w : World) (t : Tok) :
    Calls Tryz.prog 137 #[t.val] w fun e w' => e = .returned (.bool (strangeB t)) ∧ Below w.heap.size w w' := by
  unfold Tok.val Tok.cells
  go_enter Tryz.func137, Tryz.ntmps137
  by_cases hk : t.kind = 3
  · have hk' : (t.kind == 3) = true := by simp [hk]
    have HK := Lib.hid hk
    clear hk
    go_wp2_with fail
    refine (sContains _ _ 4 [⟨#[104, 101, 97, 100]⟩, ⟨#[98, 111, 100, 121]⟩, ⟨#[104, 116, 109, 108]⟩, ⟨#[98, 114]⟩] t.name (by decide) (by exact Strs.mk_ _ (by simp))).mono ?_
    rintro e w' ⟨rfl, rfl⟩
    go_wp2_with fail
    go_ret
    exact ⟨ret_bool (by simp [strangeB, HK.out]), ((Below.refl _ _).alloc (Nat.le_refl _) _).alloc (by simp) _⟩
  · have hk' : (t.kind == 3) = false := by simp [hk]
    have HK := Lib.hid hk
    clear hk
    go_wp2_with fail
    go_ret
    exact ⟨ret_bool (by simp [strangeB, HK.out]), (Below.refl _ _).alloc (Nat.le_refl _) _⟩

end Go.Proofs.YtjmlkmlbhfkhbaaGreatDoor
namespace Go.Proofs.YtjmlkmlbhfkhbaaGreatDoor
open Go Go.RowKit

abbrev nBase : Str := ⟨#[98, 97, 115, 101]⟩
abbrev nBasefont : Str := ⟨#[98, 97, 115, 101, 102, 111, 110, 116]⟩
abbrev nBgsound : Str := ⟨#[98, 103, 115, 111, 117, 110, 100]⟩
abbrev nLink : Str := ⟨#[108, 105, 110, 107]⟩
abbrev nMeta : Str := ⟨#[109, 101, 116, 97]⟩
abbrev nNoframes : Str := ⟨#[110, 111, 102, 114, 97, 109, 101, 115]⟩
abbrev nScript : Str := ⟨#[115, 99, 114, 105, 112, 116]⟩
abbrev nStyle : Str := ⟨#[115, 116, 121, 108, 101]⟩
abbrev nTemplate : Str := ⟨#[116, 101, 109, 112, 108, 97, 116, 101]⟩
abbrev nTitle : Str := ⟨#[116, 105, 116, 108, 101]⟩
abbrev belNames : List Str := [nBase, nBasefont, nBgsound, nLink, nMeta, nNoframes, nScript, nStyle, nTemplate, nTitle]

def belB (t : Tok) : Bool := startB t belNames || endB t [nTemplate]

set_option maxHeartbeats 400000 in
theorem hBelongs (w : World) (t : Tok) :
    Calls Tryz.prog 58 #[t.val] w fun e w' => e = .returned (.bool (belB t)) ∧ Below w.heap.size w w' := by
  cases hS : startB t belNames
  · have HS := Lib.hid hS
    clear hS
    unfold Tok.val Tok.cells
    go_enter Tryz.func58, Tryz.ntmps58
    go_wp2_with fail
    refine Calls.mono (hStart _ t _ 10 belNames (by decide) (by exact Strs.mk_ _ (by simp))) ?_
    rintro e w1 ⟨rfl, hb1⟩
    obtain ⟨b0, b1, b2, b3, b4, b5, b6, b7, b8⟩ := HB.tok (((HB.new w 24 t.cells).alloc _).below hb1)
    rw [HS.out]
    go_wp2_with fail
    refine Calls.mono (hEnd _ t _ 1 [nTemplate] (by decide) (by exact Strs.mk_ _ (by simp))) ?_
    rintro e w2 ⟨rfl, hb2⟩
    go_wp2_with fail
    go_ret
    refine ⟨ret_bool (by simp [belB, HS.out]), ?_⟩
    exact below_step (below_alloc (below_step (below_alloc (below_alloc (Below.refl _ _) _) _) hb1) _) hb2
  · have HS := Lib.hid hS
    clear hS
    unfold Tok.val Tok.cells
    go_enter Tryz.func58, Tryz.ntmps58
    go_wp2_with fail
    refine Calls.mono (hStart _ t _ 10 belNames (by decide) (by exact Strs.mk_ _ (by simp))) ?_
    rintro e w1 ⟨rfl, hb1⟩
    rw [HS.out]
    go_wp2_with fail
    go_ret
    refine ⟨ret_bool (by simp [belB, HS.out]), ?_⟩
    exact below_step (below_alloc (below_alloc (Below.refl _ _) _) _) hb1

end Go.Proofs.YtjmlkmlbhfkhbaaGreatDoor
namespace Go.Proofs.YtjmlkmlbhfkhbaaGreatDoor
open Go Go.RowKit

theorem info3 : (Tryz.prog.info? 3).map (fun i => (i.zero, i.size, i.bytes)) = some (some (.int .i64 0), 1, 8) := by kernel_rfl
theorem info84 : (Tryz.prog.info? 84).map (fun i => (i.zero, i.size, i.bytes)) = some (some (.agg #[.string ⟨#[]⟩, .string ⟨#[]⟩]), 2, 32) := by kernel_rfl
theorem info133 : (Tryz.prog.info? 133).map (fun i => (i.zero, i.size, i.bytes)) = some (some (.agg #[.int .i64 0, .int .i64 0, .string ⟨#[]⟩]), 3, 32) := by kernel_rfl
theorem info58 : (Tryz.prog.info? 58).map (fun i => (i.zero, i.size, i.bytes)) = some (some (.agg #[.int .i64 0, .string ⟨#[]⟩, .string ⟨#[]⟩, .int .i64 0, .slice none 0 0, .bool false, .int .i64 0, .int .i64 0, .slice none 0 0, .int .i64 0, .int .i64 0]), 11, 136) := by kernel_rfl

/-- The colouring in which just the blocks from H on are marked. -/
def newCol (H : Nat) : Col := fun g => if H ≤ g then (9, 9, 9) else (0, 0, 0)
/-- A row in memory that is new since the heap had H blocks. -/
def RowNew (H : Nat) (w : World) (e : TypeId) (size : Nat) (A : Option Addr) (n cap : Nat) (xs : List Value) : Prop := RowOk w (newCol H) (9, 9, 9) e size A n cap xs

theorem RowNew.of_row {H : Nat} {w w' : World} {c' : Col} {e : TypeId} {size : Nat} {A : Option Addr} {n cap : Nat} {xs : List Value}
    (hm : Mv (· = (9, 9, 9)) w (fun _ => (0, 0, 0)) w' c') (h : RowOk w' c' (9, 9, 9) e size A n cap xs) (hH : H ≤ w.heap.size) : RowNew H w' e size A n cap xs := by
  refine ⟨h.1, ?_⟩
  rcases h.2 with h0 | ⟨g, cur, hA, hc, rest⟩
  · exact .inl h0
  · refine .inr ⟨g, cur, hA, ?_, rest⟩
    have : ¬ g < w.heap.size := fun hlt => by
      have := hm.ext g hlt
      rw [this] at hc
      exact absurd hc (by decide)
    simp [newCol, show H ≤ g by omega]
theorem below_of_mv {w w' : World} {c' : Col} (hm : Mv (· = (9, 9, 9)) w (fun _ => (0, 0, 0)) w' c') : Below w.heap.size w w' :=
  ⟨hm.os, hm.tape, hm.output, hm.size, fun g hg => hm.blk g hg (by decide)⟩

theorem RowNew.below {H : Nat} {w w' : World} {e : TypeId} {size : Nat} {A : Option Addr} {n cap : Nat} {xs : List Value} (h : RowNew H w e size A n cap xs) (hb : Below w.heap.size w w') : RowNew H w' e size A n cap xs :=
  h.kp fun g hg e => ⟨hb.block g hg, e⟩
theorem RowNew.setCell {H : Nat} {w : World} {e : TypeId} {size : Nat} {A : Option Addr} {n cap : Nat} {xs : List Value} (h : RowNew H w e size A n cap xs) {a : Addr} (ha : a.block < H) (v : Value) : RowNew H (w.setCell a v) e size A n cap xs :=
  h.kp (kp_setCell (by unfold newCol; rw [if_neg (by omega)]; decide) v)
theorem RowNew.more {H H' : Nat} {w : World} {e : TypeId} {size : Nat} {A : Option Addr} {n cap : Nat} {xs : List Value} (h : RowNew H w e size A n cap xs) (hH : H' ≤ H) : RowNew H' w e size A n cap xs := by
  refine ⟨h.1, ?_⟩
  rcases h.2 with h0 | ⟨g, cur, hA, hc, rest⟩
  · exact .inl h0
  · refine .inr ⟨g, cur, hA, ?_, rest⟩
    have : H ≤ g := by
      unfold newCol at hc
      split at hc
      · assumption
      · exact absurd hc (by decide)
    simp [newCol, show H' ≤ g by omega]
/-- A new row that is nobody's is given a colour. -/
theorem RowNew.own {H : Nat} {w : World} {e : TypeId} {size : Nat} {A : Option Addr} {n cap : Nat} {xs : List Value} (h : RowNew H w e size A n cap xs) (c : Col) (k : Key) :
    ∃ c', RowOk w c' k e size A n cap xs ∧ (c' = c ∨ ∃ g, H ≤ g ∧ g < w.heap.size ∧ c' = paint c g k ∧ ∃ cur, w.heap[g]? = some (.cells cur e (0, 0))) := by
  rcases h.2 with h0 | ⟨g, cur, hA, hc, hg, rest⟩
  · exact ⟨c, ⟨h.1, .inl h0⟩, .inl rfl⟩
  · have hHg : H ≤ g := by
      unfold newCol at hc
      split at hc
      · assumption
      · exact absurd hc (by decide)
    exact ⟨paint c g k, ⟨h.1, .inr ⟨g, cur, hA, paint_at _ _ _, hg, rest⟩⟩, .inr ⟨g, hHg, lt_of_heap hg, rfl, cur, hg⟩⟩

theorem attrCells_one (l : List At) : ∀ u ∈ attrCells l, u.oneCell' = true := by
  intro u hu
  simp only [attrCells, List.mem_flatMap] at hu
  obtain ⟨p, _, hu⟩ := hu
  simp at hu
  rcases hu with rfl | rfl <;> rfl
theorem attrCells_len (l : List At) : (attrCells l).length = l.length * 2 := by
  induction l with
  | nil => rfl
  | cons p l ih => simp [attrCells] at ih ⊢; omega
theorem intCells_one (l : List Int) : ∀ u ∈ intCells l, u.oneCell' = true := ints_oneCell _ _
theorem intCells_len (l : List Int) : (intCells l).length = l.length * 1 := by simp [intCells]

/-- The cells behind a slice. -/
def Src (w : World) (A : Option Addr) (xs : List Value) : Prop := (A = none → xs = []) ∧ ∀ ad, A = some ad → ∀ j u, xs[j]? = some u → w.cell? (ad.add j) = some u
theorem Src.loc {w w' : World} {A : Option Addr} {xs : List Value} (h : Src w A xs) (hb : Below w.heap.size w w') : Src w' A xs :=
  ⟨h.1, fun ad had j u hu => by rw [hb.cell (block_lt_of_cell (h.2 ad had j u hu))]; exact h.2 ad had j u hu⟩
theorem add_zero_at (g j : Nat) : (⟨g, 0, none⟩ : Addr).add j = ⟨g, j, none⟩ := by unfold Addr.add; split <;> simp_all
theorem RowOk.src {w : World} {c : Col} {k : Key} {e : TypeId} {size : Nat} {A : Option Addr} {n cap : Nat} {xs : List Value} (h : RowOk w c k e size A n cap xs) : Src w A xs := by
  rcases Nat.eq_zero_or_pos n with h0 | h0
  · have hx : xs = [] := List.eq_nil_of_length_eq_zero (by rw [h.1, h0]; simp)
    subst hx
    exact ⟨fun _ => rfl, fun _ _ j u hu => by simp at hu⟩
  · obtain ⟨g, rfl, -, -, hc, -⟩ := h.at_ h0
    exact ⟨(by simp), fun ad had j u hu => by
      obtain rfl := Option.some.inj had
      rw [add_zero_at]
      exact hc j u hu⟩
theorem attrCells_nil {l : List At} (h : attrCells l = []) : l = [] := by
  cases l with
  | nil => rfl
  | cons p l => simp [attrCells] at h

set_option maxHeartbeats 400000 in
theorem cloneAttrs (w : World) (A : Option Addr) (cap : Nat) (l : List At) (hn : l.length ≤ 1000000000)
    (hA : A = none → l = []) (hc : ∀ ad, A = some ad → ∀ j u, (attrCells l)[j]? = some u → w.cell? (ad.add j) = some u) :
    Calls Tryz.prog 121 #[.slice A l.length cap] w fun e w' => ∃ A' cap', e = .returned (.slice A' l.length cap') ∧ Below w.heap.size w w' ∧ RowNew w.heap.size w' 84 2 A' l.length cap' (attrCells l) := by
  have hnil := @Lib.run_eql_slice_nil Tryz.prog
  cases A with
  | none =>
    obtain rfl := hA rfl
    go_enter Tryz.func121, Tryz.ntmps121
    go_wp2_with fail
    go_ret
    exact ⟨none, 0, rfl, Below.refl _ _, RowOk.none_⟩
  | some ad =>
    have hc' := hc ad rfl
    clear hc hA
    obtain ⟨i, hi, hz0, hz1, hz2⟩ := info_parts info84
    go_enter Tryz.func121, Tryz.ntmps121
    go_wp2_with (at_builtin; refine wpList_append_row _ (fun _ => (0, 0, 0)) (9, 9, 9) rfl _ _ 22 rfl 84 i _ 2 32 Tryz.underlying22 hi hz0 hz1 hz2 rfl (by decide) _ 0 0 [] rfl RowOk.none_ (some ad) l.length cap (attrCells l) rfl (attrCells_len l) (by simp) ?c1 (attrCells_one l) ?c2 ?c3 ?_)
    case c1 =>
      rintro _ ⟨rfl⟩ j u hu
      rw [World.cell?_alloc_lt _ _ _ (block_lt_of_cell (hc' j u hu))]
      exact hc' j u hu
    case c2 => unfold maxLen; omega
    case c3 => omega
    intro A' cap' w1 c1 hrow hmv
    go_wp2_with fail
    go_ret
    simp only [Nat.zero_add, List.nil_append] at hrow ⊢
    exact ⟨A', cap', rfl, below_step (below_alloc (Below.refl _ _) _) (below_of_mv hmv), RowNew.of_row hmv hrow (by simp)⟩

set_option maxHeartbeats 400000 in
theorem cloneInts (w : World) (A : Option Addr) (cap : Nat) (l : List Int) (hn : l.length ≤ 1000000000)
    (hA : A = none → l = []) (hc : ∀ ad, A = some ad → ∀ j u, (intCells l)[j]? = some u → w.cell? (ad.add j) = some u) :
    Calls Tryz.prog 83 #[.slice A l.length cap] w fun e w' => ∃ A' cap', e = .returned (.slice A' l.length cap') ∧ Below w.heap.size w w' ∧ RowNew w.heap.size w' 3 1 A' l.length cap' (intCells l) := by
  have hnil := @Lib.run_eql_slice_nil Tryz.prog
  cases A with
  | none =>
    obtain rfl := hA rfl
    go_enter Tryz.func83, Tryz.ntmps83
    go_wp2_with fail
    go_ret
    exact ⟨none, 0, rfl, Below.refl _ _, RowOk.none_⟩
  | some ad =>
    have hc' := hc ad rfl
    clear hc hA
    obtain ⟨i, hi, hz0, hz1, hz2⟩ := info_parts info3
    go_enter Tryz.func83, Tryz.ntmps83
    go_wp2_with (at_builtin; refine wpList_append_row _ (fun _ => (0, 0, 0)) (9, 9, 9) rfl _ _ 31 rfl 3 i _ 1 8 Tryz.underlying31 hi hz0 hz1 hz2 rfl (by decide) _ 0 0 [] rfl RowOk.none_ (some ad) l.length cap (intCells l) rfl (intCells_len l) (by simp) ?c1 (intCells_one l) ?c2 ?c3 ?_)
    case c1 =>
      rintro _ ⟨rfl⟩ j u hu
      rw [World.cell?_alloc_lt _ _ _ (block_lt_of_cell (hc' j u hu))]
      exact hc' j u hu
    case c2 => unfold maxLen; omega
    case c3 => omega
    intro A' cap' w1 c1 hrow hmv
    go_wp2_with fail
    go_ret
    simp only [Nat.zero_add, List.nil_append] at hrow ⊢
    exact ⟨A', cap', rfl, below_step (below_alloc (Below.refl _ _) _) (below_of_mv hmv), RowNew.of_row hmv hrow (by simp)⟩

theorem cloneAttrs' (w : World) (A : Option Addr) (cap : Nat) (l : List At) (hn : l.length ≤ 1000000000) (hs : Src w A (attrCells l)) :
    Calls Tryz.prog 121 #[.slice A l.length cap] w fun e w' => ∃ A' cap', e = .returned (.slice A' l.length cap') ∧ Below w.heap.size w w' ∧ RowNew w.heap.size w' 84 2 A' l.length cap' (attrCells l) :=
  cloneAttrs w A cap l hn (fun h => attrCells_nil (hs.1 h)) hs.2
theorem cloneInts' (w : World) (A : Option Addr) (cap : Nat) (l : List Int) (hn : l.length ≤ 1000000000) (hs : Src w A (intCells l)) :
    Calls Tryz.prog 83 #[.slice A l.length cap] w fun e w' => ∃ A' cap', e = .returned (.slice A' l.length cap') ∧ Below w.heap.size w w' ∧ RowNew w.heap.size w' 3 1 A' l.length cap' (intCells l) :=
  cloneInts w A cap l hn (fun h => by simpa [intCells] using hs.1 h) hs.2

set_option maxHeartbeats 400000 in
/-- arena.bare: a node without parent, kids and content. -/
theorem aBare (w : World) (x : NdC) (hn : x.nd.attrs.length ≤ 1000000000)
    (hA : x.aA = none → x.nd.attrs = []) (hc : ∀ ad, x.aA = some ad → ∀ j u, (attrCells x.nd.attrs)[j]? = some u → w.cell? (ad.add j) = some u) :
    Calls Tryz.prog 119 #[x.val] w fun e w' => ∃ A' cap', e = .returned (NdC.val { nd := { x.nd with parent := -1, content := 0, kids := [] }, aA := A', acap := cap', kA := none, kcap := 0 }) ∧
      Below w.heap.size w w' ∧ RowNew w.heap.size w' 84 2 A' x.nd.attrs.length cap' (attrCells x.nd.attrs) := by
  unfold NdC.val NdC.cells
  go_enter Tryz.func119, Tryz.ntmps119
  go_wp2_with fail
  refine (cloneAttrs _ x.aA x.acap x.nd.attrs hn hA ?_).mono ?_
  · intro ad had j u hu
    have h1 := hc ad had j u hu
    have h2 := block_lt_of_cell h1
    rw [World.cell?_alloc_lt _ _ _ (by simp; omega), World.cell?_alloc_lt _ _ _ h2]
    exact h1
  · rintro e w1 ⟨A', cap', rfl, hb1, hr1⟩
    have H0 : HB w1 w.heap.size 58 x.cells := by
      refine HB.below ?_ hb1
      refine HB.alloc ?_ _
      exact HB.new w 58 x.cells
    have H1 : HB w1 (w.heap.size + 1) 58 zeroNode := by
      refine HB.below ?_ hb1
      exact HB.at_ (by simp)
    have hz := H1.lt
    obtain ⟨b0, b1, b2, b3, b4, b5, b6, b7, b8, b9, b10⟩ := H0.node
    have f0 := H0.frozen
    have d0 := H1.cell 0
    have d1 := H1.cell 1
    have d2 := H1.cell 2
    have d3 := H1.cell 3
    have d4 := H1.cell 4
    have d5 := H1.cell 5
    have d6 := H1.cell 6
    have d7 := H1.cell 7
    have d8 := H1.cell 8
    have d9 := H1.cell 9
    have d10 := H1.cell 10
    have f1 := H1.frozen
    simp only [zeroNode, List.getElem?_cons_zero, List.getElem?_cons_succ] at d0 d1 d2 d3 d4 d5 d6 d7 d8 d9 d10
    clear H0 H1
    go_wp2_with fail
    refine bodyPost_ret (v := NdC.val { nd := { x.nd with parent := -1, content := 0, kids := [] }, aA := A', acap := cap', kA := none, kcap := 0 }) ?_ rfl ?_
    · simp [results, Tryz.results119, go_sem, NdC.val, NdC.cells, d0, d1, d2, d3, d4, d5, d6, d7, d8, d9, d10]
    · have hb : Below w.heap.size w w1 := below_step (below_alloc (below_alloc (Below.refl _ _) _) _) hb1
      refine ⟨A', cap', rfl, ?_, ?_⟩
      · repeat (refine Below.setCell ?_ (by simp) _)
        exact hb
      · refine RowNew.more (H := w.heap.size + 1 + 1) ?_ (by omega)
        repeat (refine RowNew.setCell ?_ (by dsimp only; omega) _)
        simpa only [World.size_alloc] using hr1

end Go.Proofs.YtjmlkmlbhfkhbaaGreatDoor
