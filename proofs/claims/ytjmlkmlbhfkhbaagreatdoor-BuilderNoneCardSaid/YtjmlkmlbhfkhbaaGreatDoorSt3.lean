/-
  The stack's Insert at the end, and Push.
-/
import Derived.Test.YtjmlkmlbhfkhbaaGreatDoorSt2
namespace Go.Proofs.YtjmlkmlbhfkhbaaGreatDoor
open Go Go.RowKit

theorem BRepX.keepSt {S : Key → Prop} {w w2 : World} {c c2 : Col} {h : Hd} {x : Sh} {st : St} (H : BRepX w c h x st) (hm : Mv S w c w2 c2) (h2 : ¬ S (h.sd, 6, 0)) :
    w2.cell? ⟨h.s, 1, none⟩ = some (.slice x.sA st.stk.length x.scap) ∧ w2.frozen? ⟨h.s, 1, none⟩ = false ∧ h.s < w2.heap.size := by
  have ha := H.hs.kp (hm.kp h2)
  exact ⟨ha.cell 1, ha.frozen 1, ha.lt⟩

set_option maxRecDepth 100000 in
set_option maxHeartbeats 4000000 in
theorem sInsert {w : World} {c : Col} {h : Hd} {st : St} (H : BRep w c h st) {N : Nat} (hs : Sz N st) (hN : N ≤ 100000000) (hl : st.stk.length < 512) {i : Nat} {n : Nd} (hi : st.ns[i]? = some n) (hk : n.kind = 3) :
    Calls Tryz.prog 135 #[.pointer (some ⟨h.s, 0, none⟩), .int .i64 st.stk.length, .int .i64 i] w (OkB h { st with stk := st.stk ++ [⟨i, n.space, n.name⟩] } (.int .i64 0) w c) := by
  have EL := Lib.hid (sElement H hs hN (by omega) hi hk)
  obtain ⟨X, H⟩ := H
  have hls := H.hs.lt
  have a1 : w.cell? ⟨h.s, 1, none⟩ = some (.slice X.sA st.stk.length X.scap) := H.hs.cell 1
  have h0 : (0 : Int) ≤ (st.stk.length : Int) := by omega
  have h1 : (st.stk.length : Int) < 512 := by omega
  clear hs hi hk
  go_enter Tryz.func135, Tryz.ntmps135
  go_wp2_with fail
  refine EL.out.mono ?_
  rintro e w1 ⟨rfl, hb1⟩
  obtain ⟨k1, k2, k3⟩ := H.keepSt (Mv.of_below (S := fun _ => False) hb1) id
  clear a1
  go_wp2_with fail
  go_region_law (go_simp; go_at_call 169; (refine Calls.mono (insOpen (k := (h.sd, 7, 0)) (by exact H.stk.kp (kp_below (below_drew (below_alloc (below_alloc hb1 _) _)))) ⟨(i : Int), n.space, n.name⟩ (by exact HB.at_ (by simp)) (by omega)) ?_; rintro e w2 ⟨A2, cp2, c2, rfl, hrow2, hmv2⟩; obtain ⟨m1, m2, m3⟩ := H.keepSt ((Mv.of_below (S := (· = (h.sd, 7, 0))) (below_drew (below_alloc (below_alloc hb1 _) _))).trans hmv2) (by simp)))
  all_goals
    go_wp2_with fail
    go_ret
    have hm0 : Mv (· = (h.sd, 7, 0)) w c w2 c2 := Mv.trans (Mv.of_below (below_drew (below_alloc (below_alloc hb1 _) _))) hmv2
    have hrow3 : RowOk w2 c2 (h.sd, 7, 0) 133 3 A2 (st.stk ++ [(⟨(i : Int), n.space, n.name⟩ : OpE)]).length cp2 ((st.stk ++ [(⟨(i : Int), n.space, n.name⟩ : OpE)]).flatMap OpE.cells) := by simpa using hrow2
    have SS := setStk H hrow3 hm0
    rw [show (st.stk ++ [(⟨(i : Int), n.space, n.name⟩ : OpE)]).length = st.stk.length + 1 by simp] at SS
    exact ⟨rfl, c2, ⟨_, SS.1⟩, SS.2⟩

set_option maxHeartbeats 1000000 in
theorem sPush {w : World} {c : Col} {h : Hd} {st : St} (H : BRep w c h st) {N : Nat} (hs : Sz N st) (hN : N ≤ 100000000) (hl : st.stk.length < 512) {i : Nat} {n : Nd} (hi : st.ns[i]? = some n) (hk : n.kind = 3) :
    Calls Tryz.prog 88 #[.pointer (some ⟨h.s, 0, none⟩), .int .i64 i] w (OkB h { st with stk := st.stk ++ [⟨i, n.space, n.name⟩] } (.int .i64 0) w c) := by
  have IN := Lib.hid (sInsert H hs hN hl hi hk)
  obtain ⟨X, H⟩ := H
  have L := Lib.hid (sLen (H.sv (by omega)))
  clear H hs hi hk
  go_enter Tryz.func88, Tryz.ntmps88
  go_wp2_with (first | (go_at_call 77; refine L.out.mono ?_; rintro e w1 ⟨rfl, rfl⟩) | (go_at_call 135; refine IN.out.mono ?_; rintro e w1 ⟨rfl, c1, H1, hm1⟩))
  go_ret
  exact ⟨rfl, c1, H1, hm1⟩

end Go.Proofs.YtjmlkmlbhfkhbaaGreatDoor
