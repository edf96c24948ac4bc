/-
  slices.Insert of one element at the end.
-/
import Derived.Test.YtjmlkmlbhfkhbaaGreatDoorPrim
namespace Go.Proofs.YtjmlkmlbhfkhbaaGreatDoor
open Go Go.RowKit

theorem OpE.one (x : OpE) : ∀ u ∈ x.cells, u.oneCell' = true := by
  intro u hu
  simp only [OpE.cells, List.mem_cons, List.not_mem_nil, or_false] at hu
  rcases hu with rfl | rfl | rfl <;> rfl

theorem HB.news {w : World} {g : Nat} {t : TypeId} {cs : List Value} (H : HB w g t cs) : ∀ ad, some (⟨g, 0, none⟩ : Addr) = some ad → ∀ j u, cs[j]? = some u → w.cell? (ad.add j) = some u := by
  intro ad had j u hu
  obtain rfl := Option.some.inj had
  rw [add_zero_at, H.cell j]
  exact hu

theorem RowOk.none_len {w : World} {c : Col} {k : Key} {e : TypeId} {size : Nat} {n cap : Nat} {xs : List Value} (h : RowOk w c k e size none n cap xs) : n = 0 ∧ cap = 0 := by
  rcases h.2 with h0 | ⟨g, cur, hA, _⟩
  · exact h0
  · cases hA

set_option maxRecDepth 100000 in
set_option maxHeartbeats 1000000 in
theorem insOpen {w : World} {c : Col} {k : Key} {A : Option Addr} {n cap : Nat} {xs : List Value} (hrow : RowOk w c k 133 3 A n cap xs) (x : OpE) {g : Nat} (hg : HB w g 133 (x.cells)) (hn : n ≤ 1000000) :
    Calls Tryz.prog 169 #[.slice A n cap, .int .i64 n, .slice (some ⟨g, 0, none⟩) 1 1] w fun e w' => ∃ A' cap' c', e = .returned (.slice A' (n + 1) cap') ∧ RowOk w' c' k 133 3 A' (n + 1) cap' (xs ++ x.cells) ∧ Mv (· = k) w c w' c' := by
  obtain ⟨i0, hi0, hz0, hz1, hz2⟩ := info_parts info133
  have hle := hrow.le
  have hmx := hrow.capMax
  unfold maxLen at hmx
  have h0 : (0 : Int) ≤ (n : Int) := by omega
  have h1 : (n : Int) ≤ (cap : Int) := by omega
  cases A with
  | none =>
    obtain ⟨rfl, rfl⟩ := hrow.none_len
    go_enter Tryz.func169, Tryz.ntmps169
    go_wp2_with (at_builtin; refine wpList_append_row _ c k rfl (.tmp 23) (.tmp 24) 119 rfl 133 i0 _ 3 32 Tryz.underlying119 hi0 hz0 hz1 hz2 rfl (by decide) _ _ _ _ rfl hrow _ 1 1 (x.cells) rfl (by rfl) (by simp) hg.news (OpE.one x) (by unfold maxLen; omega) (by omega) ?_)
    intro A2 cp2 w2 c2 hrow2 hmv2
    go_wp2_with fail
    go_ret
    exact ⟨A2, cp2, c2, rfl, hrow2, hmv2⟩
  | some ad =>
    go_enter Tryz.func169, Tryz.ntmps169
    go_wp2_with (at_builtin; refine wpList_append_row _ c k rfl (.tmp 23) (.tmp 24) 119 rfl 133 i0 _ 3 32 Tryz.underlying119 hi0 hz0 hz1 hz2 rfl (by decide) _ _ _ _ rfl hrow _ 1 1 (x.cells) rfl (by rfl) (by simp) hg.news (OpE.one x) (by unfold maxLen; omega) (by omega) ?_)
    all_goals
      intro A2 cp2 w2 c2 hrow2 hmv2
      go_wp2_with fail
      go_ret
      exact ⟨A2, cp2, c2, rfl, hrow2, hmv2⟩

set_option maxRecDepth 100000 in
set_option maxHeartbeats 1000000 in
theorem insInt {w : World} {c : Col} {k : Key} {A : Option Addr} {n cap : Nat} {xs : List Value} (hrow : RowOk w c k 3 1 A n cap xs) (x : Int) {g : Nat} (hg : HB w g 3 ([.int .i64 x])) (hn : n ≤ 1000000) :
    Calls Tryz.prog 157 #[.slice A n cap, .int .i64 n, .slice (some ⟨g, 0, none⟩) 1 1] w fun e w' => ∃ A' cap' c', e = .returned (.slice A' (n + 1) cap') ∧ RowOk w' c' k 3 1 A' (n + 1) cap' (xs ++ [.int .i64 x]) ∧ Mv (· = k) w c w' c' := by
  obtain ⟨i0, hi0, hz0, hz1, hz2⟩ := info_parts info3
  have hle := hrow.le
  have hmx := hrow.capMax
  unfold maxLen at hmx
  have h0 : (0 : Int) ≤ (n : Int) := by omega
  have h1 : (n : Int) ≤ (cap : Int) := by omega
  cases A with
  | none =>
    obtain ⟨rfl, rfl⟩ := hrow.none_len
    go_enter Tryz.func157, Tryz.ntmps157
    go_wp2_with (at_builtin; refine wpList_append_row _ c k rfl (.tmp 23) (.tmp 24) 31 rfl 3 i0 _ 1 8 Tryz.underlying31 hi0 hz0 hz1 hz2 rfl (by decide) _ _ _ _ rfl hrow _ 1 1 ([.int .i64 x]) rfl (by rfl) (by simp) hg.news (by simp [Value.oneCell']) (by unfold maxLen; omega) (by omega) ?_)
    intro A2 cp2 w2 c2 hrow2 hmv2
    go_wp2_with fail
    go_ret
    exact ⟨A2, cp2, c2, rfl, hrow2, hmv2⟩
  | some ad =>
    go_enter Tryz.func157, Tryz.ntmps157
    go_wp2_with (at_builtin; refine wpList_append_row _ c k rfl (.tmp 23) (.tmp 24) 31 rfl 3 i0 _ 1 8 Tryz.underlying31 hi0 hz0 hz1 hz2 rfl (by decide) _ _ _ _ rfl hrow _ 1 1 ([.int .i64 x]) rfl (by rfl) (by simp) hg.news (by simp [Value.oneCell']) (by unfold maxLen; omega) (by omega) ?_)
    all_goals
      intro A2 cp2 w2 c2 hrow2 hmv2
      go_wp2_with fail
      go_ret
      exact ⟨A2, cp2, c2, rfl, hrow2, hmv2⟩

end Go.Proofs.YtjmlkmlbhfkhbaaGreatDoor
