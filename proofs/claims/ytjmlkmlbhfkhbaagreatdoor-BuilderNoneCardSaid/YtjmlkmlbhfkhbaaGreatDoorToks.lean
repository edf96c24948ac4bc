/-
  The functions that ask what a token is.
-/
import Derived.Test.YtjmlkmlbhfkhbaaGreatDoorProg
import Derived.Test.YtjmlkmlbhfkhbaaGreatDoorRep
namespace Go.Proofs.YtjmlkmlbhfkhbaaGreatDoor
open Go Go.RowKit

/-- The cells of a slice of strings that was laid for a call. -/
def Strs (w : World) (g : Nat) (ns : List Str) : Prop := ∀ j s, ns[j]? = some s → w.cell? ⟨g, j, none⟩ = some (.string s)

def eqS (s t : Str) : Bool := s.toList == t.toList
def inS (ns : List Str) (s : Str) : Bool := ns.any fun x => eqS s x
def idxOf (ns : List Str) (s : Str) : Int := match ns.findIdx? (fun x => eqS s x) with | some k => k | none => -1

theorem idxOf_at {ns : List Str} {s x : Str} {k : Nat} (hx : ns[k]? = some x) (he : (s.toList == x.toList) = true) (hne : ∀ j x, j < k → ns[j]? = some x → eqS s x = false) : idxOf ns s = k := by
  have hk := (List.getElem?_eq_some_iff.1 hx).1
  have : ns.findIdx? (fun x => eqS s x) = some k := by
    rw [List.findIdx?_eq_some_iff_getElem]
    refine ⟨hk, ?_, fun j hj => ?_⟩
    · rw [(List.getElem?_eq_some_iff.1 hx).2]; exact he
    · have := hne j ns[j] hj (List.getElem?_eq_getElem (by omega))
      simp [this]
  unfold idxOf
  rw [this]
theorem idxOf_none {ns : List Str} {s : Str} (hne : ∀ j x, j < ns.length → ns[j]? = some x → eqS s x = false) : idxOf ns s = -1 := by
  have : ns.findIdx? (fun x => eqS s x) = none := by
    rw [List.findIdx?_eq_none_iff]
    intro x hx
    obtain ⟨j, hj, hxj⟩ := List.getElem_of_mem hx
    exact hne j x hj (by rw [List.getElem?_eq_getElem hj, hxj])
  unfold idxOf
  rw [this]
theorem idxOf_ge (ns : List Str) (s : Str) : decide (0 ≤ idxOf ns s) = inS ns s := by
  unfold idxOf inS
  cases h : ns.findIdx? (fun x => eqS s x) with
  | none =>
    rw [List.findIdx?_eq_none_iff] at h
    have : ns.any (fun x => eqS s x) = false := by simpa using h
    simp [this]
  | some k =>
    rw [List.findIdx?_eq_some_iff_getElem] at h
    obtain ⟨hk, h1, _⟩ := h
    have : ns.any (fun x => eqS s x) = true := by
      simp only [List.any_eq_true]
      exact ⟨ns[k], List.getElem_mem hk, h1⟩
    simp [this]
theorem ret_int {k : IntKind} {a b : Int} (h : a = b) : Ending.returned (.int k a) = .returned (.int k b) := by rw [h]
theorem ret_bool {a b : Bool} (h : a = b) : Ending.returned (.bool a) = .returned (.bool b) := by rw [h]

theorem ne_succ {ns : List Str} {s x : Str} {k : Nat} (hx : ns[k]? = some x) (he : (s.toList == x.toList) = false) (hne : ∀ j x, j < k → ns[j]? = some x → eqS s x = false) : ∀ j x, j < k + 1 → ns[j]? = some x → eqS s x = false := by
  intro j y hj hy
  rcases Nat.lt_or_ge j k with h | h
  · exact hne j y h hy
  · obtain rfl : j = k := by omega
    rw [hx] at hy
    obtain rfl := Option.some.inj hy
    exact he

set_option maxHeartbeats 400000 in
theorem sIndex (w : World) (g cap : Nat) (ns : List Str) (s : Str) (hlen : ns.length ≤ 1000) (hs : Strs w g ns) :
    Calls Tryz.prog 164 #[.slice (some ⟨g, 0, none⟩) ns.length cap, .string s] w fun e w' => e = .returned (.int .i64 (idxOf ns s)) ∧ w = w' := by
  go_enter Tryz.func164, Tryz.ntmps164
  go_wp2
  go_loop [5, 8] (fun _ i => ∃ k : Nat, k ≤ ns.length ∧ i = .int .i64 k ∧ ∀ j x, j < k → ns[j]? = some x → eqS s x = false) (fun _ i => ns.length - (intOf i).toNat)
  case atStart => exact ⟨0, Nat.zero_le _, rfl, by omega⟩
  case round =>
    obtain ⟨k, hk, rfl, hne⟩ := hrel
    have HN := Lib.hid hne
    clear hne
    by_cases hlt : k < ns.length
    · obtain ⟨x, hx⟩ : ∃ x, ns[k]? = some x := ⟨ns[k], List.getElem?_eq_getElem hlt⟩
      have hc := hs k x hx
      have HX := Lib.hid hx
      clear hx
      go_wp2
      · go_ret
        exact ⟨ret_int (idxOf_at HX.out (by assumption) HN.out).symm, rfl⟩
      · go_round
        case rel => exact ⟨k + 1, by omega, by go_num, ne_succ HX.out (by assumption) HN.out⟩
        case measure => simp [intOf]; omega
    · go_wp2
      go_ret
      exact ⟨ret_int (idxOf_none (by have := HN.out; intro j x hj hx; exact this j x (by omega) hx)).symm, rfl⟩

set_option maxHeartbeats 400000 in
theorem sContains (w : World) (g cap : Nat) (ns : List Str) (s : Str) (hlen : ns.length ≤ 1000) (hs : Strs w g ns) :
    Calls Tryz.prog 130 #[.slice (some ⟨g, 0, none⟩) ns.length cap, .string s] w fun e w' => e = .returned (.bool (inS ns s)) ∧ w = w' := by
  go_enter Tryz.func130, Tryz.ntmps130
  go_wp2_with fail
  refine (sIndex w g cap ns s hlen hs).mono ?_
  rintro e w' ⟨rfl, rfl⟩
  go_wp2_with fail
  go_ret
  exact ⟨ret_bool (idxOf_ge ns s), rfl⟩

def startB (t : Tok) (ns : List Str) : Bool := decide (t.kind = 2) && inS ns t.name
def endB (t : Tok) (ns : List Str) : Bool := decide (t.kind = 3) && inS ns t.name

theorem Strs.alloc {w : World} {g : Nat} {ns : List Str} (h : Strs w g ns) (o : Obj) : Strs (w.alloc o) g ns := by
  intro j s hs
  have := h j s hs
  have hlt := block_lt_of_cell this
  rw [World.cell?_alloc_lt w o _ hlt]
  exact this
theorem Strs.mk_ {w : World} {g : Nat} (ns : List Str) (hg : g = w.heap.size) : Strs (w.alloc (.cells (ns.map Value.string).toArray 9)) g ns := by
  subst hg
  intro j s hs
  rw [cell_of_row _ _ j _ 9 (0, 0) (heap_alloc_new w _)]
  simp [hs]

set_option maxHeartbeats 400000 in
theorem hStart (w : World) (t : Tok) (g cap : Nat) (ns : List Str) (hlen : ns.length ≤ 1000) (hs : Strs w g ns) :
    Calls Tryz.prog 102 #[t.val, .slice (some ⟨g, 0, none⟩) ns.length cap] w fun e w' => e = .returned (.bool (startB t ns)) ∧ Below w.heap.size w w' := by
  unfold Tok.val Tok.cells
  have hs1 := hs.alloc (.cells t.cells.toArray 24)
  unfold Tok.cells at hs1
  go_enter Tryz.func102, Tryz.ntmps102
  by_cases hk : t.kind = 2
  · have hk' : (t.kind == 2) = true := by simp [hk]
    have HK := Lib.hid hk
    clear hk
    go_wp2_with fail
    refine (sContains _ g cap ns t.name hlen hs1).mono ?_
    rintro e w' ⟨rfl, rfl⟩
    go_wp2_with fail
    go_ret
    exact ⟨ret_bool (by simp [startB, HK.out]), (Below.refl _ _).alloc (Nat.le_refl _) _⟩
  · have hk' : (t.kind == 2) = false := by simp [hk]
    have HK := Lib.hid hk
    clear hk
    go_wp2_with fail
    go_ret
    exact ⟨ret_bool (by simp [startB, HK.out]), (Below.refl _ _).alloc (Nat.le_refl _) _⟩

set_option maxHeartbeats 400000 in
theorem hEnd (w : World) (t : Tok) (g cap : Nat) (ns : List Str) (hlen : ns.length ≤ 1000) (hs : Strs w g ns) :
    Calls Tryz.prog 103 #[t.val, .slice (some ⟨g, 0, none⟩) ns.length cap] w fun e w' => e = .returned (.bool (endB t ns)) ∧ Below w.heap.size w w' := by
  unfold Tok.val Tok.cells
  have hs1 := hs.alloc (.cells t.cells.toArray 24)
  unfold Tok.cells at hs1
  go_enter Tryz.func103, Tryz.ntmps103
  by_cases hk : t.kind = 3
  · have hk' : (t.kind == 3) = true := by simp [hk]
    have HK := Lib.hid hk
    clear hk
    go_wp2_with fail
    refine (sContains _ g cap ns t.name hlen hs1).mono ?_
    rintro e w' ⟨rfl, rfl⟩
    go_wp2_with fail
    go_ret
    exact ⟨ret_bool (by simp [endB, HK.out]), (Below.refl _ _).alloc (Nat.le_refl _) _⟩
  · have hk' : (t.kind == 3) = false := by simp [hk]
    have HK := Lib.hid hk
    clear hk
    go_wp2_with fail
    go_ret
    exact ⟨ret_bool (by simp [endB, HK.out]), (Below.refl _ _).alloc (Nat.le_refl _) _⟩

def strangeB (t : Tok) : Bool := decide (t.kind = 3) && !inS [⟨#[104, 101, 97, 100]⟩, ⟨#[98, 111, 100, 121]⟩, ⟨#[104, 116, 109, 108]⟩, ⟨#[98, 114]⟩] t.name

set_option maxHeartbeats 400000 in
theorem hStrange (w : World) (t : Tok) :
    Calls Tryz.prog 137 #[t.val] w fun e w' => e = .returned (.bool (strangeB t)) ∧ Below w.heap.size w w' := by
  unfold Tok.val Tok.cells
  go_enter Tryz.func137, Tryz.ntmps137
  by_cases hk : t.kind = 3
  · have hk' : (t.kind == 3) = true := by simp [hk]
    have HK := Lib.hid hk
    clear hk
    go_wp2_with fail
    refine (sContains _ _ 4 [⟨#[104, 101, 97, 100]⟩, ⟨#[98, 111, 100, 121]⟩, ⟨#[104, 116, 109, 108]⟩, ⟨#[98, 114]⟩] t.name (by decide) (by exact Strs.mk_ _ (by simp))).mono ?_
    rintro e w' ⟨rfl, rfl⟩
    go_wp2_with fail
    go_ret
    exact ⟨ret_bool (by simp [strangeB, HK.out]), ((Below.refl _ _).alloc (Nat.le_refl _) _).alloc (by simp) _⟩
  · have hk' : (t.kind == 3) = false := by simp [hk]
    have HK := Lib.hid hk
    clear hk
    go_wp2_with fail
    go_ret
    exact ⟨ret_bool (by simp [strangeB, HK.out]), (Below.refl _ _).alloc (Nat.le_refl _) _⟩

end Go.Proofs.YtjmlkmlbhfkhbaaGreatDoor
