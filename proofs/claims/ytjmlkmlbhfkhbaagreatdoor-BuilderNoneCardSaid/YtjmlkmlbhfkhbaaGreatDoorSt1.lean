/-
  The stack's functions: Len, At, Top, Pop, element, Insert at the end, Push.
-/
import Derived.Test.YtjmlkmlbhfkhbaaGreatDoorPrim2
import Derived.Test.YtjmlkmlbhfkhbaaGreatDoorIns
import Derived.Test.YtjmlkmlbhfkhbaaGreatDoorAr2
import Derived.Deep.RegionLaw
namespace Go.Proofs.YtjmlkmlbhfkhbaaGreatDoor
open Go Go.RowKit

theorem OpE.cells_len (x : OpE) : x.cells.length = 3 := rfl
theorem flat3_at : ∀ (l : List OpE) (i j : Nat) (x : OpE), l[i]? = some x → j < 3 → (l.flatMap OpE.cells)[i * 3 + j]? = x.cells[j]?
  | [], i, j, x, hx, hj => by simp at hx
  | y :: l, 0, j, x, hx, hj => by
    simp at hx
    subst hx
    rw [List.flatMap_cons, List.getElem?_append_left (by rw [OpE.cells_len]; omega)]
    simp
  | y :: l, i + 1, j, x, hx, hj => by
    have := flat3_at l i j x (by simpa using hx) hj
    rw [List.flatMap_cons, List.getElem?_append_right (by rw [OpE.cells_len]; omega), OpE.cells_len, ← this]
    congr 1
    omega
theorem flat3_take : ∀ (l : List OpE) (n : Nat), (l.flatMap OpE.cells).take (n * 3) = (l.take n).flatMap OpE.cells
  | [], n => by simp
  | y :: l, 0 => by simp
  | y :: l, n + 1 => by
    rw [List.flatMap_cons, List.take_succ_cons, List.flatMap_cons, ← flat3_take l n, List.take_append, OpE.cells_len, List.take_of_length_le (by rw [OpE.cells_len]; omega)]
    congr 2
    omega

/-- What is to be read of a stack. -/
def SV (w : World) (s a : Nat) (A : Option Addr) (cap : Nat) (stk : List OpE) : Prop :=
  w.cell? ⟨s, 0, none⟩ = some (.pointer (some ⟨a, 0, none⟩)) ∧ w.cell? ⟨s, 1, none⟩ = some (.slice A stk.length cap) ∧ stk.length ≤ 1000000 ∧ stk.length ≤ cap ∧ cap ≤ maxLen ∧
  (0 < stk.length → ∃ g, A = some ⟨g, 0, none⟩ ∧ ∀ k o, stk[k]? = some o → w.cell? ⟨g, k * 3, none⟩ = some (.int .i64 o.node) ∧ w.cell? ⟨g, k * 3 + 1, none⟩ = some (.int .i64 o.space) ∧ w.cell? ⟨g, k * 3 + 2, none⟩ = some (.string o.name))

theorem BRepX.sv {w : World} {c : Col} {h : Hd} {x : Sh} {st : St} (H : BRepX w c h x st) (hl : st.stk.length ≤ 1000000) : SV w h.s h.a x.sA x.scap st.stk := by
  refine ⟨H.hs.cell 0, H.hs.cell 1, hl, H.stk.le, H.stk.capMax, fun h0 => ?_⟩
  obtain ⟨g, hA, -, -, hc, -⟩ := H.stk.at_ h0
  refine ⟨g, hA, fun k o ho => ⟨?_, ?_, ?_⟩⟩
  · exact hc (k * 3 + 0) _ (by rw [flat3_at _ k 0 o ho (by omega)]; rfl)
  · exact hc (k * 3 + 1) _ (by rw [flat3_at _ k 1 o ho (by omega)]; rfl)
  · exact hc (k * 3 + 2) _ (by rw [flat3_at _ k 2 o ho (by omega)]; rfl)

def atOf (stk : List OpE) (k : Int) : Int := if 0 ≤ k then (match stk[k.toNat]? with | some o => o.node | none => -1) else -1
def topOf (stk : List OpE) : Int := atOf stk ((stk.length : Int) - 1)

section
variable {w : World} {s a : Nat} {A : Option Addr} {cap : Nat} {stk : List OpE}

set_option maxHeartbeats 400000 in
theorem sLen (H : SV w s a A cap stk) : Calls Tryz.prog 77 #[.pointer (some ⟨s, 0, none⟩)] w fun e w' => e = .returned (.int .i64 stk.length) ∧ w = w' := by
  have a1 := H.2.1
  clear H
  go_enter Tryz.func77, Tryz.ntmps77
  go_wp2_with fail
  go_ret
  exact ⟨rfl, rfl⟩

set_option maxHeartbeats 400000 in
theorem sNone (H : SV w s a A cap stk) : Calls Tryz.prog 127 #[.pointer (some ⟨s, 0, none⟩)] w fun e w' => e = .returned (.bool false) ∧ w = w' := by
  have a1 := H.1
  clear H
  go_enter Tryz.func127, Tryz.ntmps127
  go_wp2_with fail
  go_ret
  exact ⟨rfl, rfl⟩

set_option maxHeartbeats 400000 in
theorem sAt (H : SV w s a A cap stk) (k : Int) : Calls Tryz.prog 79 #[.pointer (some ⟨s, 0, none⟩), .int .i64 k] w fun e w' => e = .returned (.int .i64 (atOf stk k)) ∧ w = w' := by
  have L := Lib.hid (sLen H)
  by_cases h0 : 0 ≤ k
  · by_cases h1 : k < stk.length
    · obtain ⟨n, rfl⟩ := Int.eq_ofNat_of_zero_le h0
      have hn : n < stk.length := by omega
      obtain ⟨g, rfl, hc⟩ := H.2.2.2.2.2 (by omega)
      obtain ⟨c0, -, -⟩ := hc n _ (List.getElem?_eq_getElem hn)
      have hat : atOf stk (n : Int) = stk[n].node := by unfold atOf; rw [if_pos h0]; simp [hn]
      rw [hat]
      have a1 := H.2.1
      clear H hc hat
      go_enter Tryz.func79, Tryz.ntmps79
      go_wp2_with (go_at_call 77; refine L.out.mono ?_; rintro e w1 ⟨rfl, rfl⟩)
      go_ret
      exact ⟨rfl, rfl⟩
    · have hat : atOf stk k = -1 := by unfold atOf; rw [if_pos h0, List.getElem?_eq_none (by omega)]
      rw [hat]
      clear H hat
      go_enter Tryz.func79, Tryz.ntmps79
      go_wp2_with (go_at_call 77; refine L.out.mono ?_; rintro e w1 ⟨rfl, rfl⟩)
      go_ret
      exact ⟨rfl, rfl⟩
  · have hat : atOf stk k = -1 := by unfold atOf; rw [if_neg h0]
    rw [hat]
    clear H hat
    go_enter Tryz.func79, Tryz.ntmps79
    go_wp2_with fail
    go_ret
    exact ⟨rfl, rfl⟩

set_option maxHeartbeats 400000 in
theorem sTop (H : SV w s a A cap stk) : Calls Tryz.prog 85 #[.pointer (some ⟨s, 0, none⟩)] w fun e w' => e = .returned (.int .i64 (topOf stk)) ∧ w = w' := by
  have L := Lib.hid (sLen H)
  have T := Lib.hid (sAt H ((stk.length : Int) - 1))
  have hl := H.2.2.1
  clear H
  go_enter Tryz.func85, Tryz.ntmps85
  go_wp2_with (first | (go_at_call 77; refine L.out.mono ?_; rintro e w1 ⟨rfl, rfl⟩) | (go_at_call 79; refine T.out.mono ?_; rintro e w1 ⟨rfl, rfl⟩))
  go_ret
  exact ⟨rfl, rfl⟩
end

set_option maxHeartbeats 1000000 in
theorem sPop {w : World} {c : Col} {h : Hd} {st : St} (H : BRep w c h st) (hl : st.stk.length ≤ 1000000) :
    Calls Tryz.prog 61 #[.pointer (some ⟨h.s, 0, none⟩)] w (OkB h { st with stk := st.stk.dropLast } (.int .i64 (topOf st.stk)) w c) := by
  obtain ⟨X, H⟩ := H
  have V := H.sv hl
  have L := Lib.hid (sLen V)
  have T := Lib.hid (sTop V)
  have a1 := V.2.1
  have f1 : w.frozen? ⟨h.s, 1, none⟩ = false := H.hs.frozen 1
  have hle := V.2.2.2.1
  have hmx := V.2.2.2.2.1
  unfold maxLen at hmx
  by_cases h0 : 0 < st.stk.length
  · have hi0 : (0 : Int) ≤ (st.stk.length : Int) - 1 := by omega
    have hi2 : (st.stk.length : Int) - 1 ≤ (X.scap : Int) := by omega
    have hcut := H.stk.cut (m := st.stk.length - 1) (by omega)
    rw [flat3_take] at hcut
    have hdl : st.stk.take (st.stk.length - 1) = st.stk.dropLast := (List.dropLast_eq_take).symm
    have hll : st.stk.length - 1 = st.stk.dropLast.length := by simp
    rw [hdl, hll] at hcut
    have SS := Lib.hid (setStk H hcut (Mv.refl _ _ _))
    have HLL := Lib.hid hll
    clear V H hcut hdl hll
    go_enter Tryz.func61, Tryz.ntmps61
    go_wp2_with (first | (go_at_call 77; refine L.out.mono ?_; rintro e w1 ⟨rfl, rfl⟩) | (go_at_call 85; refine T.out.mono ?_; rintro e w1 ⟨rfl, rfl⟩))
    go_ret
    rw [HLL.out]
    exact ⟨rfl, c, ⟨_, SS.out.1⟩, SS.out.2⟩
  · have hnil : st.stk = [] := List.eq_nil_of_length_eq_zero (by omega)
    have HN := Lib.hid hnil
    have HB := Lib.hid (show BRep w c h st from ⟨X, H⟩)
    clear V H hnil
    go_enter Tryz.func61, Tryz.ntmps61
    go_wp2_with (first | (go_at_call 77; refine L.out.mono ?_; rintro e w1 ⟨rfl, rfl⟩) | (go_at_call 85; refine T.out.mono ?_; rintro e w1 ⟨rfl, rfl⟩))
    go_ret
    refine ⟨rfl, c, ?_, Mv.refl _ _ _⟩
    have e : { st with stk := st.stk.dropLast } = st := by
      have := HN.out
      cases st
      simp only at this
      subst this
      rfl
    rw [e]
    exact HB.out

end Go.Proofs.YtjmlkmlbhfkhbaaGreatDoor
