/-
  Arena.hang and Append, of a node that hangs nowhere, behind a parent's kids.
-/
import Derived.Test.YtjmlkmlbhfkhbaaGreatDoorPrim
import Derived.Deep.RegionLaw
namespace Go.Proofs.YtjmlkmlbhfkhbaaGreatDoor
open Go Go.RowKit

def hangN (ns : List Nd) (p i : Nat) : List Nd := match ns[p]?, ns[i]? with
  | some np, some ni => (ns.set p { np with kids := np.kids ++ [(i : Int)] }).set i { ni with parent := p }
  | _, _ => ns

theorem BRepX.nodeOf {w : World} {c : Col} {h : Hd} {x : Sh} {st : St} (H : BRepX w c h x st) {i : Nat} {n : Nd} (hn : st.ns[i]? = some n) : ∃ y, x.cs[i]? = some y ∧ y.nd = n := by
  rw [← H.ns, List.getElem?_map] at hn
  cases hy : x.cs[i]? with
  | none => rw [hy] at hn; cases hn
  | some y => rw [hy] at hn; exact ⟨y, rfl, Option.some.inj hn⟩

theorem BRepX.fz {w : World} {c : Col} {h : Hd} {x : Sh} {st : St} (H : BRepX w c h x st) (hx : 0 < x.cs.length) : (∀ j, w.frozen? ⟨x.gn, j, none⟩ = false) ∧ x.gn < w.heap.size := by
  obtain ⟨g, hg, -, hlt, -, hf⟩ := H.nodes.row.at_ hx
  simp only [Option.some.injEq, Addr.mk.injEq, and_true] at hg
  rw [hg]
  exact ⟨hf, hlt⟩

/-- The arena's cells where only other blocks have turned. -/
theorem BRepX.keepAV {S : Key → Prop} {w w2 : World} {c c2 : Col} {h : Hd} {x : Sh} {st : St} (H : BRepX w c h x st) (hm : Mv S w c w2 c2) (h2 : ¬ S (h.sd, 2, 0)) (h3 : ¬ S (h.sd, 3, 0)) (hx : 0 < x.cs.length) :
    w2.cell? ⟨h.a, 0, none⟩ = some (.slice (some ⟨x.gn, 0, none⟩) x.cs.length x.ncap) ∧ w2.frozen? ⟨h.a, 0, none⟩ = false ∧ (∀ j, w2.frozen? ⟨x.gn, j, none⟩ = false) ∧ h.a < w2.heap.size ∧ x.gn < w2.heap.size ∧
    ∀ i y j v, x.cs[i]? = some y → y.cells[j]? = some v → w2.cell? ⟨x.gn, i * 11 + j, none⟩ = some v := by
  have ha := H.ha.kp (hm.kp h2)
  have hr := H.nodes.row.kp (hm.kp h3)
  obtain ⟨g, hg, -, hlt, -, hf⟩ := hr.at_ hx
  simp only [Option.some.injEq, Addr.mk.injEq, and_true] at hg
  refine ⟨ha.cell 0, ha.frozen 0, by rw [hg]; exact hf, ha.lt, by rw [hg]; exact hlt, fun i y j v hy hv => ?_⟩
  have hj : j < 11 := by have := (List.getElem?_eq_some_iff.1 hv).1; rw [NdC.cells_len] at this; exact this
  exact hr.cell (by rw [flat_at x.cs i j y hy hj]; exact hv)

set_option maxHeartbeats 1000000 in
theorem aFree0 {w : World} {a gn cap : Nat} {cs : List NdC} (H : AV w a gn cap cs) {i : Nat} {x : NdC} (hx : cs[i]? = some x) (hp : x.nd.parent = -1) :
    Calls Tryz.prog 159 #[.pointer (some ⟨a, 0, none⟩), .int .i64 i] w fun e w' => e = .returned (.tuple #[]) ∧ w = w' := by
  have hi : i < cs.length := (List.getElem?_eq_some_iff.1 hx).1
  obtain ⟨-, -, -, -, -, -, b6, -⟩ := H.node hx
  rw [hp] at b6
  have a0 := H.1
  have hi0 : (0 : Int) ≤ (i : Int) := by omega
  have hi1 : (i : Int) < cs.length := by omega
  clear H hx hp
  go_enter Tryz.func159, Tryz.ntmps159
  go_wp2_with fail
  refine bodyPost_ret (results_none rfl _ _ _) rfl ?_
  exact ⟨rfl, rfl⟩

set_option maxRecDepth 100000 in
set_option maxHeartbeats 4000000 in
theorem aHang {w : World} {c : Col} {h : Hd} {st : St} (H : BRep w c h st) {p i : Nat} {np ni : Nd} (hp : st.ns[p]? = some np) (hi : st.ns[i]? = some ni) (hpar : ni.parent = -1) (hpi : p ≠ i)
    (hn : st.ns.length ≤ 1000000000) (hk : np.kids.length ≤ 1000000000) :
    Calls Tryz.prog 115 #[.pointer (some ⟨h.a, 0, none⟩), .int .i64 p, .int .i64 (-1), .int .i64 i] w (OkB h { st with ns := hangN st.ns p i } (.tuple #[]) w c) := by
  obtain ⟨X, H⟩ := H
  have AVw := H.av hn
  obtain ⟨yp, hyp, rfl⟩ := H.nodeOf hp
  obtain ⟨yi, hyi, rfl⟩ := H.nodeOf hi
  have FR := Lib.hid (aFree0 AVw hyi hpar)
  obtain ⟨-, -, -, -, -, -, -, -, p8, -⟩ := AVw.node hyp
  have hpl : p < X.cs.length := (List.getElem?_eq_some_iff.1 hyp).1
  have hil : i < X.cs.length := (List.getElem?_eq_some_iff.1 hyi).1
  obtain ⟨fz, hgl⟩ := H.fz (by omega)
  have fp := fz (p * 11 + 8)
  have a0 := AVw.1
  have hal := H.ha.lt
  have hp0 : (0 : Int) ≤ (p : Int) := by omega
  have hp1 : (p : Int) < X.cs.length := by omega
  have hi0 : (0 : Int) ≤ (i : Int) := by omega
  have hi1 : (i : Int) < X.cs.length := by omega
  obtain ⟨t0, ht0, hz0, hz1, hz2⟩ := info_parts info3
  have RK := (H.nodes.each p yp hyp).1
  have HY := Lib.hid (And.intro hyp (And.intro hyi (And.intro hp hi)))
  clear hyp hyi hp hi fz hpar hn
  go_enter Tryz.func115, Tryz.ntmps115
  go_wp2_with fail
  refine FR.out.mono ?_
  rintro e w1 ⟨rfl, rfl⟩
  go_wp2_with fail
  go_region_law (refine step_append_row _ c (h.sd, 4, p) rfl (.tmp 28) (.tmp 30) 31 rfl 3 t0 _ 1 8 Tryz.underlying31 ht0 hz0 hz1 hz2 rfl (by decide) _ yp.nd.kids.length yp.kcap (intCells yp.nd.kids) rfl (by exact RK.kp (kp_below (below_drew (below_alloc (Below.refl _ _) _)))) _ 1 1 [.int .i64 (i : Int)] rfl (by rfl) (by simp) (by exact news_new _ _ _) (by simp [Value.oneCell']) (by unfold maxLen; omega) (by omega) ?_; intro A2 cp2 w2 c2 hrow2 hmv2; obtain ⟨k1, k2, k3, k4, k5, k6⟩ := H.keepAV ((Mv.of_below (S := (· = (h.sd, 4, p))) (below_drew (below_alloc (Below.refl _ _) _))).trans hmv2) (by simp) (by simp) (by omega); have k7 := k6 p yp 8 _ HY.out.1 rfl; have k8 := k3 (p * 11 + 8); clear k3 k6)
  all_goals
    go_upto_region 6 with fail
    have hrow3 : RowOk w2 c2 (h.sd, 4, p) 3 1 A2 (yp.nd.kids ++ [(i : Int)]).length cp2 (intCells (yp.nd.kids ++ [(i : Int)])) := by simpa [intCells] using hrow2
    have sk := setKids H HY.out.1 (below_drew (below_alloc (Below.refl _ _) _)) hrow3 hmv2
    rw [show (yp.nd.kids ++ [(i : Int)]).length = yp.nd.kids.length + 1 by simp] at sk
    clear k1 k2 k4 k5 k7 k8 hrow3 hrow2
    obtain ⟨H3, hm3⟩ := sk
    generalize w2.setCell ⟨X.gn, p * 11 + 8, none⟩ (.slice A2 (yp.nd.kids.length + 1) cp2) = w3 at *
    have hyi3 : (X.cs.set p { yp with nd := { yp.nd with kids := yp.nd.kids ++ [(i : Int)] }, kA := A2, kcap := cp2 })[i]? = some yi := by
      rw [List.getElem?_set_ne hpi]
      exact HY.out.2.1
    have hlen3 : (X.cs.set p { yp with nd := { yp.nd with kids := yp.nd.kids ++ [(i : Int)] }, kA := A2, kcap := cp2 }).length = X.cs.length := by simp
    obtain ⟨k1, -, k3, k4, k5, k6⟩ := H3.keepAV (Mv.refl (fun _ => False) w3 c2) id id (by simp only [hlen3]; omega)
    have k7 := k6 i yi 6 _ hyi3 rfl
    have k8 := k3 (i * 11 + 6)
    simp only [hlen3] at k1 k7 k8
    clear k3 k6
    have sn := setNode (y' := { yi with nd := { yi.nd with parent := (p : Int) } }) (v := .int .i64 (p : Int)) H3 hyi3 (j := 6) (by omega) rfl ⟨rfl, rfl, rfl⟩ ⟨rfl, rfl, rfl⟩
    have SN := Lib.hid sn
    have HYI := Lib.hid hyi3
    clear sn hyi3 hlen3 a0 p8 fp
    go_wp2_with fail
    go_end0
    refine ⟨rfl, c2, ?_, hm3.trans SN.out.2⟩
    have e : hangN st.ns p i = (st.ns.set p { yp.nd with kids := yp.nd.kids ++ [(i : Int)] }).set i { yi.nd with parent := (p : Int) } := by
      unfold hangN
      rw [HY.out.2.2.1, HY.out.2.2.2]
    rw [e]
    exact ⟨_, SN.out.1⟩

def UpNs (ns : List Nd) : Prop := ∀ (i : Nat) (n : Nd), ns[i]? = some n → -1 ≤ n.parent ∧ n.parent < (i : Int)
theorem BRepX.upOk {w : World} {c : Col} {h : Hd} {x : Sh} {st : St} (H : BRepX w c h x st) (hu : UpNs st.ns) : UpOk x.cs := by
  intro i y hy
  exact hu i y.nd (by rw [← H.ns, List.getElem?_map, hy]; rfl)

set_option maxHeartbeats 1000000 in
theorem aAppend {w : World} {c : Col} {h : Hd} {st : St} (H : BRep w c h st) {p i : Nat} {np ni : Nd} (hp : st.ns[p]? = some np) (hi : st.ns[i]? = some ni) (hpar : ni.parent = -1) (hpi : p < i)
    (hn : st.ns.length ≤ 1000000000) (hk : np.kids.length ≤ 1000000000) (hkp : np.kind = 1 ∨ np.kind = 3 ∨ np.kind = 6) (hki : ni.kind = 2 ∨ ni.kind = 3 ∨ ni.kind = 4 ∨ ni.kind = 5) (hu : UpNs st.ns) :
    Calls Tryz.prog 65 #[.pointer (some ⟨h.a, 0, none⟩), .int .i64 p, .int .i64 i] w (OkB h { st with ns := hangN st.ns p i } (.int .i64 0) w c) := by
  have HG := Lib.hid (aHang H hp hi hpar (by omega) hn hk)
  obtain ⟨X, H⟩ := H
  have AVw := H.av hn
  obtain ⟨yp, hyp, rfl⟩ := H.nodeOf hp
  obtain ⟨yi, hyi, rfl⟩ := H.nodeOf hi
  have hpl : p < X.cs.length := (List.getElem?_eq_some_iff.1 hyp).1
  have c1 := Lib.hid (aNone AVw (by omega))
  have c2 := Lib.hid (aHolds AVw hyp hkp)
  have c3 := Lib.hid (aHangs AVw hyi hki)
  have c4 := Lib.hid (aAbove AVw (H.upOk hu) i p (by omega) (by omega) (by omega))
  clear hyp hyi hp hi AVw H hu hkp hki hpar hn hk
  go_enter Tryz.func65, Tryz.ntmps65
  go_wp2_with (first | (go_at_call 111; refine c1.out.mono ?_; rintro e w1 ⟨rfl, rfl⟩) | (go_at_call 116; refine c2.out.mono ?_; rintro e w1 ⟨rfl, rfl⟩) | (go_at_call 112; refine c3.out.mono ?_; rintro e w1 ⟨rfl, rfl⟩) | (go_at_call 114; refine c4.out.mono ?_; rintro e w1 ⟨rfl, rfl⟩) | (go_at_call 115; refine HG.out.mono ?_; rintro e w1 ⟨rfl, c5, H5, hm5⟩))
  go_ret
  exact ⟨rfl, c5, H5, hm5⟩

end Go.Proofs.YtjmlkmlbhfkhbaaGreatDoor
