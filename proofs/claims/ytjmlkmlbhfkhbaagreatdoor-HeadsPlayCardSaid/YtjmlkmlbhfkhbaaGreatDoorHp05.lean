/-
  Arena.hang and Append, of a node that hangs nowhere, behind a parent's kids.
  The stack's row, the list's, the template modes' are others, and their slice is stored.
  Arena.Add.
-/
import Derived.Test.YtjmlkmlbhfkhbaaGreatDoorHp04
import Derived.Deep.RegionLaw
set_option linter.unusedSimpArgs false
set_option linter.unusedVariables false
namespace Go.Proofs.YtjmlkmlbhfkhbaaGreatDoor
open Go Go.RowKit

def hangN (ns : List Nd) (p i : Nat) : List Nd := match ns[p]?, ns[i]? with
  | some np, some ni => (ns.set p { np with kids := np.kids ++ [(i : Int)] }).set i { ni with parent := p }
  | _, _ => ns

theorem BRepX.nodeOf {w : World} {c : Col} {h : Hd} {x : Sh} {st : St} (H : BRepX w c h x st) {i : Nat} {n : Nd} (hn : st.ns[i]? = some n) : ∃ y, x.cs[i]? = some y ∧ y.nd = n := by
  rw [← H.ns, List.getElem?_map] at hn
  cases hy : x.cs[i]? with
  | none => rw [hy] at hn; cases hn
  | some y => rw [hy] at hn; exact ⟨y, rfl, Option.some.inj hn⟩

theorem BRepX.fz {w : World} {c : Col} {h : Hd} {x : Sh} {st : St} (H : BRepX w c h x st) (hx : 0 < x.cs.length) : (∀ j, w.frozen? ⟨x.gn, j, none⟩ = false) ∧ x.gn < w.heap.size := by
  obtain ⟨g, hg, -, hlt, -, hf⟩ := H.nodes.row.at_ hx
  simp only [Option.some.injEq, Addr.mk.injEq, and_true] at hg
  rw [hg]
  exact ⟨hf, hlt⟩

/-- The arena's cells where only other blocks have turned. -/
theorem BRepX.keepAV {S : Key → Prop} {w w2 : World} {c c2 : Col} {h : Hd} {x : Sh} {st : St} (H : BRepX w c h x st) (hm : Mv S w c w2 c2) (h2 : ¬ S (h.sd, 2, 0)) (h3 : ¬ S (h.sd, 3, 0)) (hx : 0 < x.cs.length) :
    w2.cell? ⟨h.a, 0, none⟩ = some (.slice (some ⟨x.gn, 0, none⟩) x.cs.length x.ncap) ∧ w2.frozen? ⟨h.a, 0, none⟩ = false ∧ (∀ j, w2.frozen? ⟨x.gn, j, none⟩ = false) ∧ h.a < w2.heap.size ∧ x.gn < w2.heap.size ∧
    ∀ i y j v, x.cs[i]? = some y → y.cells[j]? = some v → w2.cell? ⟨x.gn, i * 11 + j, none⟩ = some v := by
  have ha := H.ha.kp (hm.kp h2)
  have hr := H.nodes.row.kp (hm.kp h3)
  obtain ⟨g, hg, -, hlt, -, hf⟩ := hr.at_ hx
  simp only [Option.some.injEq, Addr.mk.injEq, and_true] at hg
  refine ⟨ha.cell 0, ha.frozen 0, by rw [hg]; exact hf, ha.lt, by rw [hg]; exact hlt, fun i y j v hy hv => ?_⟩
  have hj : j < 11 := by have := (List.getElem?_eq_some_iff.1 hv).1; rw [NdC.cells_len] at this; exact this
  exact hr.cell (by rw [flat_at x.cs i j y hy hj]; exact hv)

set_option maxHeartbeats 1000000 in
theorem aFree0 {w : World} {a gn cap : Nat} {cs : List NdC} (H : AV w a gn cap cs) {i : Nat} {x : NdC} (hx : cs[i]? = some x) (hp : x.nd.parent = -1) :
    Calls Tryz.prog 159 #[.pointer (some ⟨a, 0, none⟩), .int .i64 i] w fun e w' => e = .returned (.tuple #[]) ∧ w = w' := by
  have hi : i < cs.length := (List.getElem?_eq_some_iff.1 hx).1
  obtain ⟨-, -, -, -, -, -, b6, -⟩ := H.node hx
  rw [hp] at b6
  have a0 := H.1
  have hi0 : (0 : Int) ≤ (i : Int) := by omega
  have hi1 : (i : Int) < cs.length := by omega
  clear H hx hp
  go_enter Tryz.func159, Tryz.ntmps159
  go_wp2_with fail
  refine bodyPost_ret (results_none rfl _ _ _) rfl ?_
  exact ⟨rfl, rfl⟩

set_option maxRecDepth 100000 in
set_option maxHeartbeats 4000000 in
theorem aHang {w : World} {c : Col} {h : Hd} {st : St} (H : BRep w c h st) {p i : Nat} {np ni : Nd} (hp : st.ns[p]? = some np) (hi : st.ns[i]? = some ni) (hpar : ni.parent = -1) (hpi : p ≠ i)
    (hn : st.ns.length ≤ 1000000000) (hk : np.kids.length ≤ 1000000000) :
    Calls Tryz.prog 115 #[.pointer (some ⟨h.a, 0, none⟩), .int .i64 p, .int .i64 (-1), .int .i64 i] w (OkB h { st with ns := hangN st.ns p i } (.tuple #[]) w c) := by
  obtain ⟨X, H⟩ := H
  have AVw := H.av hn
  obtain ⟨yp, hyp, rfl⟩ := H.nodeOf hp
  obtain ⟨yi, hyi, rfl⟩ := H.nodeOf hi
  have FR := Lib.hid (aFree0 AVw hyi hpar)
  obtain ⟨-, -, -, -, -, -, -, -, p8, -⟩ := AVw.node hyp
  have hpl : p < X.cs.length := (List.getElem?_eq_some_iff.1 hyp).1
  have hil : i < X.cs.length := (List.getElem?_eq_some_iff.1 hyi).1
  obtain ⟨fz, hgl⟩ := H.fz (by omega)
  have fp := fz (p * 11 + 8)
  have a0 := AVw.1
  have hal := H.ha.lt
  have hp0 : (0 : Int) ≤ (p : Int) := by omega
  have hp1 : (p : Int) < X.cs.length := by omega
  have hi0 : (0 : Int) ≤ (i : Int) := by omega
  have hi1 : (i : Int) < X.cs.length := by omega
  obtain ⟨t0, ht0, hz0, hz1, hz2⟩ := info_parts info3
  have RK := (H.nodes.each p yp hyp).1
  have HY := Lib.hid (And.intro hyp (And.intro hyi (And.intro hp hi)))
  clear hyp hyi hp hi fz hpar hn
  go_enter Tryz.func115, Tryz.ntmps115
  go_wp2_with fail
  refine FR.out.mono ?_
  rintro e w1 ⟨rfl, rfl⟩
  go_wp2_with fail
  go_region_law (refine step_append_row _ c (h.sd, 4, p) rfl (.tmp 28) (.tmp 30) 31 rfl 3 t0 _ 1 8 Tryz.underlying31 ht0 hz0 hz1 hz2 rfl (by decide) _ yp.nd.kids.length yp.kcap (intCells yp.nd.kids) rfl (by exact RK.kp (kp_below (below_drew (below_alloc (Below.refl _ _) _)))) _ 1 1 [.int .i64 (i : Int)] rfl (by rfl) (by simp) (by exact news_new _ _ _) (by simp [Value.oneCell']) (by unfold maxLen; omega) (by omega) ?_; intro A2 cp2 w2 c2 hrow2 hmv2; obtain ⟨k1, k2, k3, k4, k5, k6⟩ := H.keepAV ((Mv.of_below (S := (· = (h.sd, 4, p))) (below_drew (below_alloc (Below.refl _ _) _))).trans hmv2) (by simp) (by simp) (by omega); have k7 := k6 p yp 8 _ HY.out.1 rfl; have k8 := k3 (p * 11 + 8); clear k3 k6)
  all_goals
    go_upto_region 6 with fail
    have hrow3 : RowOk w2 c2 (h.sd, 4, p) 3 1 A2 (yp.nd.kids ++ [(i : Int)]).length cp2 (intCells (yp.nd.kids ++ [(i : Int)])) := by simpa [intCells] using hrow2
    have sk := setKids H HY.out.1 (below_drew (below_alloc (Below.refl _ _) _)) hrow3 hmv2
    rw [show (yp.nd.kids ++ [(i : Int)]).length = yp.nd.kids.length + 1 by simp] at sk
    clear k1 k2 k4 k5 k7 k8 hrow3 hrow2
    obtain ⟨H3, hm3⟩ := sk
    generalize w2.setCell ⟨X.gn, p * 11 + 8, none⟩ (.slice A2 (yp.nd.kids.length + 1) cp2) = w3 at *
    have hyi3 : (X.cs.set p { yp with nd := { yp.nd with kids := yp.nd.kids ++ [(i : Int)] }, kA := A2, kcap := cp2 })[i]? = some yi := by
      rw [List.getElem?_set_ne hpi]
      exact HY.out.2.1
    have hlen3 : (X.cs.set p { yp with nd := { yp.nd with kids := yp.nd.kids ++ [(i : Int)] }, kA := A2, kcap := cp2 }).length = X.cs.length := by simp
    obtain ⟨k1, -, k3, k4, k5, k6⟩ := H3.keepAV (Mv.refl (fun _ => False) w3 c2) id id (by simp only [hlen3]; omega)
    have k7 := k6 i yi 6 _ hyi3 rfl
    have k8 := k3 (i * 11 + 6)
    simp only [hlen3] at k1 k7 k8
    clear k3 k6
    have sn := setNode (y' := { yi with nd := { yi.nd with parent := (p : Int) } }) (v := .int .i64 (p : Int)) H3 hyi3 (j := 6) (by omega) rfl ⟨rfl, rfl, rfl⟩ ⟨rfl, rfl, rfl⟩
    have SN := Lib.hid sn
    have HYI := Lib.hid hyi3
    clear sn hyi3 hlen3 a0 p8 fp
    go_wp2_with fail
    go_end0
    refine ⟨rfl, c2, ?_, hm3.trans SN.out.2⟩
    have e : hangN st.ns p i = (st.ns.set p { yp.nd with kids := yp.nd.kids ++ [(i : Int)] }).set i { yi.nd with parent := (p : Int) } := by
      unfold hangN
      rw [HY.out.2.2.1, HY.out.2.2.2]
    rw [e]
    exact ⟨_, SN.out.1⟩

def UpNs (ns : List Nd) : Prop := ∀ (i : Nat) (n : Nd), ns[i]? = some n → -1 ≤ n.parent ∧ n.parent < (i : Int)
theorem BRepX.upOk {w : World} {c : Col} {h : Hd} {x : Sh} {st : St} (H : BRepX w c h x st) (hu : UpNs st.ns) : UpOk x.cs := by
  intro i y hy
  exact hu i y.nd (by rw [← H.ns, List.getElem?_map, hy]; rfl)

set_option maxHeartbeats 1000000 in
theorem aAppend {w : World} {c : Col} {h : Hd} {st : St} (H : BRep w c h st) {p i : Nat} {np ni : Nd} (hp : st.ns[p]? = some np) (hi : st.ns[i]? = some ni) (hpar : ni.parent = -1) (hpi : p < i)
    (hn : st.ns.length ≤ 1000000000) (hk : np.kids.length ≤ 1000000000) (hkp : np.kind = 1 ∨ np.kind = 3 ∨ np.kind = 6) (hki : ni.kind = 2 ∨ ni.kind = 3 ∨ ni.kind = 4 ∨ ni.kind = 5) (hu : UpNs st.ns) :
    Calls Tryz.prog 65 #[.pointer (some ⟨h.a, 0, none⟩), .int .i64 p, .int .i64 i] w (OkB h { st with ns := hangN st.ns p i } (.int .i64 0) w c) := by
  have HG := Lib.hid (aHang H hp hi hpar (by omega) hn hk)
  obtain ⟨X, H⟩ := H
  have AVw := H.av hn
  obtain ⟨yp, hyp, rfl⟩ := H.nodeOf hp
  obtain ⟨yi, hyi, rfl⟩ := H.nodeOf hi
  have hpl : p < X.cs.length := (List.getElem?_eq_some_iff.1 hyp).1
  have c1 := Lib.hid (aNone AVw (by omega))
  have c2 := Lib.hid (aHolds AVw hyp hkp)
  have c3 := Lib.hid (aHangs AVw hyi hki)
  have c4 := Lib.hid (aAbove AVw (H.upOk hu) i p (by omega) (by omega) (by omega))
  clear hyp hyi hp hi AVw H hu hkp hki hpar hn hk
  go_enter Tryz.func65, Tryz.ntmps65
  go_wp2_with (first | (go_at_call 111; refine c1.out.mono ?_; rintro e w1 ⟨rfl, rfl⟩) | (go_at_call 116; refine c2.out.mono ?_; rintro e w1 ⟨rfl, rfl⟩) | (go_at_call 112; refine c3.out.mono ?_; rintro e w1 ⟨rfl, rfl⟩) | (go_at_call 114; refine c4.out.mono ?_; rintro e w1 ⟨rfl, rfl⟩) | (go_at_call 115; refine HG.out.mono ?_; rintro e w1 ⟨rfl, c5, H5, hm5⟩))
  go_ret
  exact ⟨rfl, c5, H5, hm5⟩

end Go.Proofs.YtjmlkmlbhfkhbaaGreatDoor
namespace Go.Proofs.YtjmlkmlbhfkhbaaGreatDoor
open Go Go.RowKit

theorem setStk {w w2 : World} {c c2 : Col} {h : Hd} {x : Sh} {st : St} (H : BRepX w c h x st) {A : Option Addr} {cap : Nat} {l : List OpE}
    (hrow : RowOk w2 c2 (h.sd, 7, 0) 133 3 A l.length cap (l.flatMap OpE.cells)) (hm : Mv (· = (h.sd, 7, 0)) w c w2 c2) :
    BRepX (w2.setCell ⟨h.s, 1, none⟩ (.slice A l.length cap)) c2 h { x with sA := A, scap := cap } { st with stk := l } ∧ Mv (Pr h) w c (w2.setCell ⟨h.s, 1, none⟩ (.slice A l.length cap)) c2 := by
  have hg2 : Good w2 c2 := hm.gd H.gd
  have hs2 := H.hs.kp (hm.kp (by simp))
  generalize hw3 : w2.setCell ⟨h.s, 1, none⟩ (.slice A l.length cap) = w3
  have hz3 : w3.heap.size = w2.heap.size := by rw [← hw3]; simp [World.setCell]
  have hst : ∀ k, k ≠ (h.sd, 6, 0) → Kp k w2 c2 w3 c2 := fun k hk => by rw [← hw3]; exact kp_setCell (by rw [hs2.1]; exact fun e => hk e.symm) _
  have hk : ∀ q i', q ∉ [7, 6] → Kp (h.sd, q, i') w c w3 c2 := fun q i' hq => (hm.kp (S := (· = (h.sd, 7, 0))) (by simp at hq; simp; omega)).trans hm.size (hst _ (by simp at hq; simp; omega))
  obtain ⟨o1, o2, o3, o4, o5, -, -, o8, o9, o10, o11⟩ := H.others [7, 6] hk
  have hg3 : Good w3 c2 := fun g hs => hg2 g (by omega)
  refine ⟨⟨hg3, H.sd, o1 (by decide), o2 (by decide), ⟨o3 (by decide), fun i y hy => ⟨o4 (by decide) i y hy, o5 (by decide) i y hy⟩⟩, H.ns, ?_, hrow.kp (hst _ (by simp)), o8 (by decide), o9 (by decide), o10 (by decide), o11 (by decide)⟩, ?_⟩
  · have := hs2.set_ 1 (.slice A l.length cap)
    rw [hw3] at this
    exact this
  · refine ⟨?_, ?_, ?_, by have := hm.size; omega, hm.ext, fun g hg hs => ?_, fun _ => hg3⟩
    · rw [← hw3]; exact hm.os
    · rw [← hw3]; exact hm.tape
    · rw [← hw3]; exact hm.output
    · have hne : g ≠ h.s := fun e => hs (by
        rw [← hm.ext g hg, e, hs2.1]; rfl)
      rw [← hw3, heap_setCell_other _ _ _ _ hne]
      exact hm.blk g hg (fun e => hs (by rw [e]; rfl))

theorem setFmt {w w2 : World} {c c2 : Col} {h : Hd} {x : Sh} {st : St} (H : BRepX w c h x st) {A : Option Addr} {cap : Nat} {l : List Int}
    (hrow : RowOk w2 c2 (h.sd, 9, 0) 3 1 A l.length cap (intCells l)) (hm : Mv (· = (h.sd, 9, 0)) w c w2 c2) :
    BRepX (w2.setCell ⟨h.l, 1, none⟩ (.slice A l.length cap)) c2 h { x with fA := A, fcap := cap } { st with fmt := l } ∧ Mv (Pr h) w c (w2.setCell ⟨h.l, 1, none⟩ (.slice A l.length cap)) c2 := by
  have hg2 : Good w2 c2 := hm.gd H.gd
  have hs2 := H.hl.kp (hm.kp (by simp))
  generalize hw3 : w2.setCell ⟨h.l, 1, none⟩ (.slice A l.length cap) = w3
  have hz3 : w3.heap.size = w2.heap.size := by rw [← hw3]; simp [World.setCell]
  have hst : ∀ k, k ≠ (h.sd, 8, 0) → Kp k w2 c2 w3 c2 := fun k hk => by rw [← hw3]; exact kp_setCell (by rw [hs2.1]; exact fun e => hk e.symm) _
  have hk : ∀ q i', q ∉ [9, 8] → Kp (h.sd, q, i') w c w3 c2 := fun q i' hq => (hm.kp (S := (· = (h.sd, 9, 0))) (by simp at hq; simp; omega)).trans hm.size (hst _ (by simp at hq; simp; omega))
  obtain ⟨o1, o2, o3, o4, o5, o6, o7, -, -, o10, o11⟩ := H.others [9, 8] hk
  have hg3 : Good w3 c2 := fun g hs => hg2 g (by omega)
  refine ⟨⟨hg3, H.sd, o1 (by decide), o2 (by decide), ⟨o3 (by decide), fun i y hy => ⟨o4 (by decide) i y hy, o5 (by decide) i y hy⟩⟩, H.ns, o6 (by decide), o7 (by decide), ?_, hrow.kp (hst _ (by simp)), o10 (by decide), o11 (by decide)⟩, ?_⟩
  · have := hs2.set_ 1 (.slice A l.length cap)
    rw [hw3] at this
    exact this
  · refine ⟨?_, ?_, ?_, by have := hm.size; omega, hm.ext, fun g hg hs => ?_, fun _ => hg3⟩
    · rw [← hw3]; exact hm.os
    · rw [← hw3]; exact hm.tape
    · rw [← hw3]; exact hm.output
    · have hne : g ≠ h.l := fun e => hs (by
        rw [← hm.ext g hg, e, hs2.1]; rfl)
      rw [← hw3, heap_setCell_other _ _ _ _ hne]
      exact hm.blk g hg (fun e => hs (by rw [e]; rfl))

theorem setModes {w w2 : World} {c c2 : Col} {h : Hd} {x : Sh} {st : St} (H : BRepX w c h x st) {A : Option Addr} {cap : Nat} {l : List Int}
    (hrow : RowOk w2 c2 (h.sd, 10, 0) 3 1 A l.length cap (intCells l)) (hm : Mv (· = (h.sd, 10, 0)) w c w2 c2) :
    BRepX (w2.setCell ⟨h.b, 5, none⟩ (.slice A l.length cap)) c2 h { x with mA := A, mcap := cap } { st with modes := l } ∧ Mv (Pr h) w c (w2.setCell ⟨h.b, 5, none⟩ (.slice A l.length cap)) c2 := by
  have hg2 : Good w2 c2 := hm.gd H.gd
  have hs2 := H.hb.kp (hm.kp (by simp))
  generalize hw3 : w2.setCell ⟨h.b, 5, none⟩ (.slice A l.length cap) = w3
  have hz3 : w3.heap.size = w2.heap.size := by rw [← hw3]; simp [World.setCell]
  have hst : ∀ k, k ≠ (h.sd, 1, 0) → Kp k w2 c2 w3 c2 := fun k hk => by rw [← hw3]; exact kp_setCell (by rw [hs2.1]; exact fun e => hk e.symm) _
  have hk : ∀ q i', q ∉ [10, 1] → Kp (h.sd, q, i') w c w3 c2 := fun q i' hq => (hm.kp (S := (· = (h.sd, 10, 0))) (by simp at hq; simp; omega)).trans hm.size (hst _ (by simp at hq; simp; omega))
  obtain ⟨-, o2, o3, o4, o5, o6, o7, o8, o9, -, o11⟩ := H.others [10, 1] hk
  have hg3 : Good w3 c2 := fun g hs => hg2 g (by omega)
  refine ⟨⟨hg3, H.sd, ?_, o2 (by decide), ⟨o3 (by decide), fun i y hy => ⟨o4 (by decide) i y hy, o5 (by decide) i y hy⟩⟩, H.ns, o6 (by decide), o7 (by decide), o8 (by decide), o9 (by decide), hrow.kp (hst _ (by simp)), o11 (by decide)⟩, ?_⟩
  · have := hs2.set_ 5 (.slice A l.length cap)
    rw [hw3] at this
    exact this
  · refine ⟨?_, ?_, ?_, by have := hm.size; omega, hm.ext, fun g hg hs => ?_, fun _ => hg3⟩
    · rw [← hw3]; exact hm.os
    · rw [← hw3]; exact hm.tape
    · rw [← hw3]; exact hm.output
    · have hne : g ≠ h.b := fun e => hs (by
        rw [← hm.ext g hg, e, hs2.1]; rfl)
      rw [← hw3, heap_setCell_other _ _ _ _ hne]
      exact hm.blk g hg (fun e => hs (by rw [e]; rfl))

end Go.Proofs.YtjmlkmlbhfkhbaaGreatDoor
namespace Go.Proofs.YtjmlkmlbhfkhbaaGreatDoor
open Go Go.RowKit
def tmplB (n : Nd) : Bool := decide (n.kind = 3) && decide (n.space = 0) && eqS n.name nTemplate
def addN (ns : List Nd) (n : Nd) : List Nd := if tmplB n then ns ++ [{ bareNd n with content := (ns.length : Int) + 1 }, contentNd] else ns ++ [bareNd n]

/-- Where the first node has been added. -/
def AddMid (h : Hd) (st : St) (w : World) (c : Col) (x : NdC) (n : Nat) (s5 : Value) (wx : World) : Prop :=
  s5 = .int .i64 n ∧ (∃ c3 x3 y, BRepX wx c3 h x3 { st with ns := st.ns ++ [bareNd x.nd] } ∧ Mv (Pr h) w c wx c3 ∧ x3.cs.length = n + 1 ∧ x3.cs[n]? = some y ∧ y.nd = bareNd x.nd) ∧ HB wx w.heap.size 58 x.cells

set_option maxRecDepth 100000 in
set_option maxHeartbeats 4000000 in
theorem aAdd {w : World} {c : Col} {h : Hd} {st : St} (H : BRep w c h st) (x : NdC) (hk : x.nd.kind = 2 ∨ x.nd.kind = 3 ∨ x.nd.kind = 4 ∨ x.nd.kind = 5)
    (hn : st.ns.length ≤ 100000000) (hna : x.nd.attrs.length ≤ 1000000000) (sa : Src w x.aA (attrCells x.nd.attrs)) (h0 : st.ns.length ≠ 0) :
    Calls Tryz.prog 68 #[.pointer (some ⟨h.a, 0, none⟩), x.val] w (OkB h { st with ns := addN st.ns x.nd } (.int .i64 st.ns.length) w c) := by
  obtain ⟨X, H⟩ := H
  have hlen : X.cs.length = st.ns.length := by rw [← H.ns]; simp
  have AVw := H.av (by omega)
  have hal := H.ha.lt
  have e0 : w.cell? ⟨h.a, 0, none⟩ = some (.slice (some ⟨X.gn, 0, none⟩) X.cs.length X.ncap) := H.ha.cell 0
  obtain ⟨i0, hi0, hz0, hz1, hz2⟩ := info_parts info58
  have hn' : X.cs.length ≤ 100000000 := by omega
  have h0' : X.cs.length ≠ 0 := by omega
  have HL := Lib.hid hlen
  clear hlen hn h0
  unfold NdC.val NdC.cells
  go_enter Tryz.func68, Tryz.ntmps68
  go_wp2_with fail
  refine (aNone (AVw.loc (below_alloc (Below.refl _ _) _)) h0').mono ?_
  rintro e w1 ⟨rfl, rfl⟩
  go_wp2_with fail
  refine (aKid _ hk).mono ?_
  rintro e w1 ⟨rfl, rfl⟩
  go_upto_region 4 with fail
  go_cut [5] (fun s5 wx => AddMid h st w c x X.cs.length s5 wx)
  case first =>
    go_region_law (first
      | (refine step_append_row _ c (h.sd, 3, 0) rfl (.tmp 23) (.tmp 26) 71 rfl 58 i0 _ 11 136 Tryz.underlying71 hi0 hz0 hz1 hz2 rfl (by decide) _ X.cs.length X.ncap (X.cs.flatMap NdC.cells) rfl (by exact H.nodes.row.kp (kp_below (below_alloc hB _))) _ 1 1 (NdC.cells { nd := bareNd x.nd, aA := A1, acap := cp1, kA := none, kcap := 0 }) rfl (by rfl) (by simp) (by exact news_new _ _ _) (NdC.one _) (by unfold maxLen; omega) (by omega) ?_; intro A2 cp2 w2 c2 hrow2 hmv2; obtain ⟨k1, k2, k3⟩ := appNodes H (below_alloc hB _) hmv2)
      | (go_simp; go_at_call 119; (refine Calls.mono (aBareL _ x hna (by exact sa.loc (below_drew (below_alloc (Below.refl _ _) _)))) ?_; rintro e w1 ⟨A1, cp1, rfl, hb1, hr1⟩; have hB : Below w.heap.size w w1 := below_step (below_drew (below_alloc (Below.refl _ _) _)) hb1; have hq1 : h.a < w1.heap.size := Nat.lt_of_lt_of_le hal hB.size; have q1 := (AVw.loc hB).1)))
    all_goals
      go_wp2_with fail
      go_meet
      case rel =>
        have hrn : RowNew w.heap.size w1 84 2 A1 x.nd.attrs.length cp1 (attrCells x.nd.attrs) := by
          refine hr1.more ?_
          simp
        obtain ⟨c3, x3, g1, g2, g3⟩ := addOne H { nd := bareNd x.nd, aA := A1, acap := cp1, kA := none, kcap := 0 } rfl rfl rfl hB hrn _ hrow2 hmv2
        refine ⟨rfl, ⟨c3, x3, _, g1, g2, by rw [g3]; simp, by rw [g3]; exact List.getElem?_concat_length, rfl⟩, ?_⟩
        have hb0 : HB w1 w.heap.size 58 x.cells := by
          refine HB.below ?_ hb1
          exact HB.new w 58 x.cells
        have hcz : (c w.heap.size).1 = 0 := H.gd _ (Nat.le_refl _)
        refine HB.setOther ?_ (by dsimp only; omega) _
        refine HB.mvk (hb0.alloc _) hmv2 ?_
        intro e
        rw [e] at hcz
        exact H.sd hcz
  case rest =>
    obtain ⟨rfl, ⟨c3, x3, y, H3, hm3, hl3, hy3, hyn⟩, hbx⟩ := hcut
    obtain ⟨b0, b1, b2, b3, b4, b5, b6, b7, b8, b9, b10⟩ := hbx.node
    have HY := Lib.hid (And.intro hl3 (And.intro hy3 hyn))
    have h3l : X.cs.length < x3.cs.length := by omega
    clear hl3 hy3 hyn AVw e0
    cases tt : tmplB x.nd
    · have TT := Lib.hid tt
      by_cases t1 : x.nd.kind = 3
      · have t1' : (x.nd.kind == 3) = true := by simp [t1]
        by_cases t2 : x.nd.space = 0
        · have t2' : (x.nd.space == 0) = true := by simp [t2]
          have t3' : (x.nd.name.toList == [116, 101, 109, 112, 108, 97, 116, 101]) = false := by
            rw [← toList_mk [116, 101, 109, 112, 108, 97, 116, 101]]
            have h3 : (decide (x.nd.kind = 3) && decide (x.nd.space = 0) && eqS x.nd.name nTemplate) = false := tt
            rw [decide_eq_true t1, decide_eq_true t2] at h3
            exact h3
          clear t1 t2 tt
          go_wp2_with fail
          go_ret
          exact ⟨ret_int (by rw [HL.out]), c3, ⟨x3, by rw [show addN st.ns x.nd = st.ns ++ [bareNd x.nd] by unfold addN; rw [TT.out]; rfl]; exact H3⟩, hm3⟩
        · have t2' : (x.nd.space == 0) = false := by simp [t2]
          clear t1 t2 tt
          go_wp2_with fail
          go_ret
          exact ⟨ret_int (by rw [HL.out]), c3, ⟨x3, by rw [show addN st.ns x.nd = st.ns ++ [bareNd x.nd] by unfold addN; rw [TT.out]; rfl]; exact H3⟩, hm3⟩
      · have t1' : (x.nd.kind == 3) = false := by simp [t1]
        clear t1 tt
        go_wp2_with fail
        go_ret
        exact ⟨ret_int (by rw [HL.out]), c3, ⟨x3, by rw [show addN st.ns x.nd = st.ns ++ [bareNd x.nd] by unfold addN; rw [TT.out]; rfl]; exact H3⟩, hm3⟩
    · have TT := Lib.hid tt
      have h3 : (decide (x.nd.kind = 3) && decide (x.nd.space = 0) && eqS x.nd.name nTemplate) = true := tt
      simp only [Bool.and_eq_true, decide_eq_true_eq] at h3
      obtain ⟨⟨t1, t2⟩, t3⟩ := h3
      have t1' : (x.nd.kind == 3) = true := by simp [t1]
      have t2' : (x.nd.space == 0) = true := by simp [t2]
      have t3' : (x.nd.name.toList == [116, 101, 109, 112, 108, 97, 116, 101]) = true := by
        rw [← toList_mk [116, 101, 109, 112, 108, 97, 116, 101]]
        exact t3
      clear t1 t2 t3 tt
      have AV3 := H3.av (by
        have := HL.out
        simp
        omega)
      obtain ⟨-, -, -, -, -, -, -, n7, -⟩ := AV3.node HY.out.2.1
      have a3 := AV3.1
      have f3 : wc.frozen? ⟨x3.gn, X.cs.length * 11 + 7, none⟩ = false := by
        obtain ⟨g, hg, -, -, -, hf⟩ := H3.nodes.row.at_ (by omega)
        simp only [Option.some.injEq, Addr.mk.injEq, and_true] at hg
        rw [hg]
        exact hf _
      have hi0' : (0 : Int) ≤ (X.cs.length : Int) := by omega
      have hi1' : (X.cs.length : Int) < (x3.cs.length : Int) := by omega
      go_upto_region 7 with fail
      obtain ⟨H4, hm4⟩ := setNode (y' := { y with nd := { y.nd with content := (X.cs.length : Int) + 1 } }) (v := .int .i64 ((X.cs.length : Int) + 1)) H3 HY.out.2.1 (j := 7) (by omega) rfl ⟨rfl, rfl, rfl⟩ ⟨rfl, rfl, rfl⟩
      generalize hw4 : wc.setCell ⟨x3.gn, X.cs.length * 11 + 7, none⟩ (.int .i64 ((X.cs.length : Int) + 1)) = w4 at *
      clear hw4 n7 a3 f3 AV3 b0 b1 b2 b3 b4 b5 b6 b7 b8 b9 b10
      have hl4 : (x3.cs.set X.cs.length { y with nd := { y.nd with content := (X.cs.length : Int) + 1 } }).length = x3.cs.length := by simp
      have e4 : w4.cell? ⟨h.a, 0, none⟩ = some (.slice (some ⟨x3.gn, 0, none⟩) x3.cs.length x3.ncap) := by rw [← hl4]; exact H4.ha.cell 0
      have hal4 := H4.ha.lt
      have h3le : x3.cs.length ≤ 100000001 := by have := HY.out.1; omega
      have R4 : RowOk w4 c3 (h.sd, 3, 0) 58 11 (some ⟨x3.gn, 0, none⟩) x3.cs.length x3.ncap ((x3.cs.set X.cs.length { y with nd := { y.nd with content := (X.cs.length : Int) + 1 } }).flatMap NdC.cells) := by
        have := H4.nodes.row
        rw [hl4] at this
        exact this
      have HL4 := Lib.hid hl4
      clear hl4
      go_region_law (first
        | (refine step_append_row _ c3 (h.sd, 3, 0) rfl (.tmp 56) (.tmp 59) 71 rfl 58 i0 _ 11 136 Tryz.underlying71 hi0 hz0 hz1 hz2 rfl (by decide) _ x3.cs.length x3.ncap _ rfl (by exact R4.kp (kp_below (below_alloc hB _))) _ 1 1 (NdC.cells { nd := contentNd, aA := A1, acap := cp1, kA := none, kcap := 0 }) rfl (by rfl) (by simp) (by exact news_new _ _ _) (NdC.one _) (by unfold maxLen; omega) (by omega) ?_; intro A2 cp2 w2 c2 hrow2 hmv2; obtain ⟨k1, k2, k3⟩ := appNodes H4 (below_alloc hB _) hmv2)
        | (go_simp; go_at_call 119; (refine Calls.mono (aBareL _ { nd := { contentNd with parent := 0 }, aA := none, acap := 0, kA := none, kcap := 0 } (by decide) ⟨fun _ => rfl, fun _ e => by cases e⟩) ?_; rintro e w1 ⟨A1, cp1, rfl, hb1, hr1⟩; have hB : Below w4.heap.size w4 w1 := below_step (below_drew (Below.refl _ _)) hb1; have hq1 : h.a < w1.heap.size := Nat.lt_of_lt_of_le hal4 hB.size; have q1 : w1.cell? ⟨h.a, 0, none⟩ = some (.slice (some ⟨x3.gn, 0, none⟩) x3.cs.length x3.ncap) := by rw [hB.cell hal4]; exact e4)))
      all_goals
        go_wp2_with fail
        go_ret
        have hrn : RowNew w4.heap.size w1 84 2 A1 contentNd.attrs.length cp1 (attrCells contentNd.attrs) := by
          refine hr1.more ?_
          simp
        have ad := addOne H4 { nd := contentNd, aA := A1, acap := cp1, kA := none, kcap := 0 } rfl rfl rfl hB hrn _ (by rw [HL4.out]; exact hrow2) hmv2
        simp only [List.length_set] at ad
        obtain ⟨c5, x5, g1, g2, -⟩ := ad
        refine ⟨ret_int (by rw [HL.out]), c5, ⟨x5, ?_⟩, hm3.trans (hm4.trans g2)⟩
        rw [show addN st.ns x.nd = (st.ns ++ [bareNd x.nd]).set X.cs.length { y.nd with content := (X.cs.length : Int) + 1 } ++ [contentNd] by
          unfold addN
          rw [TT.out, HY.out.2.2, HL.out]
          simp]
        exact g1
end Go.Proofs.YtjmlkmlbhfkhbaaGreatDoor
