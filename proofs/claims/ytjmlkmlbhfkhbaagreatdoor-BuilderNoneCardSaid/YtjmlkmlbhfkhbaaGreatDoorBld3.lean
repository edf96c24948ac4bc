/-
  The builder's Place where nothing is fostered, and Put there.
-/
import Derived.Test.YtjmlkmlbhfkhbaaGreatDoorBld2
namespace Go.Proofs.YtjmlkmlbhfkhbaaGreatDoor
open Go Go.RowKit

def placeOf (t : Nat) (n : Nd) : Int := if htmlN n [nTemplate] then n.content else (t : Int)

set_option maxHeartbeats 2000000 in
theorem bPlace {w : World} {c : Col} {h : Hd} {st : St} (H : BRep w c h st) {N : Nat} (hs : Sz N st) (hN : N ≤ 100000000) (hf : st.foster = false) {t : Nat} {n : Nd} (hi : st.ns[t]? = some n) :
    Calls Tryz.prog 28 #[.pointer (some ⟨h.b, 0, none⟩), .int .i64 t] w fun e w' => e = .returned (.tuple #[.int .i64 (placeOf t n), .int .i64 (-1)]) ∧ Below w.heap.size w w' := by
  have N1 := Lib.hid (bNone H)
  have ND := Lib.hid (aNodeB H hs hN hi)
  obtain ⟨b0, b1, b2, b3, b4, b5, b6, b7, b8, b9, -⟩ := H.choose_spec.bc
  rw [hf] at b9
  clear b3 b4 b5 b6 b7 b8 H hs hi hf
  cases hq : htmlN n [nTemplate]
  · have HQ := Lib.hid hq
    go_enter Tryz.func28, Tryz.ntmps28
    go_wp2_with (first
      | (go_at_call 63; refine N1.out.mono ?_; rintro e w1 ⟨rfl, rfl⟩)
      | (go_at_call 72; refine ND.out.mono ?_; rintro e w2 ⟨A, c1, K, c2, rfl, hb2, -, -⟩; unfold ndVal)
      | (go_at_call 81; refine Calls.mono (bHtml _ n A c1 K c2 _ 1 [nTemplate] (by simp) (by exact Strs.mk_ _ (by simp))) ?_; rintro e w3 ⟨rfl, hb3⟩))
    refine bodyPost_ret (results_tmp2 rfl _ _ _) rfl ?_
    refine ⟨?_, below_step (below_alloc (below_alloc hb2 _) _) hb3⟩
    have e : placeOf t n = (t : Int) := by unfold placeOf; rw [HQ.out]; rfl
    rw [e]
    rfl
  · have HQ := Lib.hid hq
    go_enter Tryz.func28, Tryz.ntmps28
    go_wp2_with (first
      | (go_at_call 63; refine N1.out.mono ?_; rintro e w1 ⟨rfl, rfl⟩)
      | (go_at_call 72; refine ND.out.mono ?_; rintro e w2 ⟨A, c1, K, c2, rfl, hb2, -, -⟩; unfold ndVal)
      | (go_at_call 81; refine Calls.mono (bHtml _ n A c1 K c2 _ 1 [nTemplate] (by simp) (by exact Strs.mk_ _ (by simp))) ?_; rintro e w3 ⟨rfl, hb3⟩; have hcc : w3.cell? ⟨w2.heap.size, 7, none⟩ = some (.int .i64 n.content) := (HB.below (HB.alloc (HB.new w2 58 [.int .i64 n.kind, .string n.name, .string n.text, .int .i64 n.space, .slice A n.attrs.length c1, .bool n.dup, .int .i64 n.parent, .int .i64 n.content, .slice K n.kids.length c2, .int .i64 n.frm, .int .i64 n.to_]) _) hb3).cell 7))
    refine bodyPost_ret (results_tmp2 rfl _ _ _) rfl ?_
    refine ⟨?_, below_step (below_alloc (below_alloc hb2 _) _) hb3⟩
    have e : placeOf t n = n.content := by unfold placeOf; rw [HQ.out]; rfl
    rw [e]
    rfl

end Go.Proofs.YtjmlkmlbhfkhbaaGreatDoor
