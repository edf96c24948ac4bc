/-
  Arena.Add.
-/
import Derived.Test.YtjmlkmlbhfkhbaaGreatDoorPrim
import Derived.Deep.RegionLaw
namespace Go.Proofs.YtjmlkmlbhfkhbaaGreatDoor
open Go Go.RowKit
def tmplB (n : Nd) : Bool := decide (n.kind = 3) && decide (n.space = 0) && eqS n.name nTemplate
def addN (ns : List Nd) (n : Nd) : List Nd := if tmplB n then ns ++ [{ bareNd n with content := (ns.length : Int) + 1 }, contentNd] else ns ++ [bareNd n]

/-- Where the first node has been added. -/
def AddMid (h : Hd) (st : St) (w : World) (c : Col) (x : NdC) (n : Nat) (s5 : Value) (wx : World) : Prop :=
  s5 = .int .i64 n ∧ (∃ c3 x3 y, BRepX wx c3 h x3 { st with ns := st.ns ++ [bareNd x.nd] } ∧ Mv (Pr h) w c wx c3 ∧ x3.cs.length = n + 1 ∧ x3.cs[n]? = some y ∧ y.nd = bareNd x.nd) ∧ HB wx w.heap.size 58 x.cells

set_option maxRecDepth 100000 in
set_option maxHeartbeats 4000000 in
theorem aAdd {w : World} {c : Col} {h : Hd} {st : St} (H : BRep w c h st) (x : NdC) (hk : x.nd.kind = 2 ∨ x.nd.kind = 3 ∨ x.nd.kind = 4 ∨ x.nd.kind = 5)
    (hn : st.ns.length ≤ 100000000) (hna : x.nd.attrs.length ≤ 1000000000) (sa : Src w x.aA (attrCells x.nd.attrs)) (h0 : st.ns.length ≠ 0) :
    Calls Tryz.prog 68 #[.pointer (some ⟨h.a, 0, none⟩), x.val] w (OkB h { st with ns := addN st.ns x.nd } (.int .i64 st.ns.length) w c) := by
  obtain ⟨X, H⟩ := H
  have hlen : X.cs.length = st.ns.length := by rw [← H.ns]; simp
  have AVw := H.av (by omega)
  have hal := H.ha.lt
  have e0 : w.cell? ⟨h.a, 0, none⟩ = some (.slice (some ⟨X.gn, 0, none⟩) X.cs.length X.ncap) := H.ha.cell 0
  obtain ⟨i0, hi0, hz0, hz1, hz2⟩ := info_parts info58
  have hn' : X.cs.length ≤ 100000000 := by omega
  have h0' : X.cs.length ≠ 0 := by omega
  have HL := Lib.hid hlen
  clear hlen hn h0
  unfold NdC.val NdC.cells
  go_enter Tryz.func68, Tryz.ntmps68
  go_wp2_with fail
  refine (aNone (AVw.loc (below_alloc (Below.refl _ _) _)) h0').mono ?_
  rintro e w1 ⟨rfl, rfl⟩
  go_wp2_with fail
  refine (aKid _ hk).mono ?_
  rintro e w1 ⟨rfl, rfl⟩
  go_upto_region 4 with fail
  go_cut [5] (fun s5 wx => AddMid h st w c x X.cs.length s5 wx)
  case first =>
    go_region_law (first
      | (refine step_append_row _ c (h.sd, 3, 0) rfl (.tmp 23) (.tmp 26) 71 rfl 58 i0 _ 11 136 Tryz.underlying71 hi0 hz0 hz1 hz2 rfl (by decide) _ X.cs.length X.ncap (X.cs.flatMap NdC.cells) rfl (by exact H.nodes.row.kp (kp_below (below_alloc hB _))) _ 1 1 (NdC.cells { nd := bareNd x.nd, aA := A1, acap := cp1, kA := none, kcap := 0 }) rfl (by rfl) (by simp) (by exact news_new _ _ _) (NdC.one _) (by unfold maxLen; omega) (by omega) ?_; intro A2 cp2 w2 c2 hrow2 hmv2; obtain ⟨k1, k2, k3⟩ := appNodes H (below_alloc hB _) hmv2)
      | (go_simp; go_at_call 119; (refine Calls.mono (aBareL _ x hna (by exact sa.loc (below_drew (below_alloc (Below.refl _ _) _)))) ?_; rintro e w1 ⟨A1, cp1, rfl, hb1, hr1⟩; have hB : Below w.heap.size w w1 := below_step (below_drew (below_alloc (Below.refl _ _) _)) hb1; have hq1 : h.a < w1.heap.size := Nat.lt_of_lt_of_le hal hB.size; have q1 := (AVw.loc hB).1)))
    all_goals
      go_wp2_with fail
      go_meet
      case rel =>
        have hrn : RowNew w.heap.size w1 84 2 A1 x.nd.attrs.length cp1 (attrCells x.nd.attrs) := by
          refine hr1.more ?_
          simp
        obtain ⟨c3, x3, g1, g2, g3⟩ := addOne H { nd := bareNd x.nd, aA := A1, acap := cp1, kA := none, kcap := 0 } rfl rfl rfl hB hrn _ hrow2 hmv2
        refine ⟨rfl, ⟨c3, x3, _, g1, g2, by rw [g3]; simp, by rw [g3]; exact List.getElem?_concat_length, rfl⟩, ?_⟩
        have hb0 : HB w1 w.heap.size 58 x.cells := by
          refine HB.below ?_ hb1
          exact HB.new w 58 x.cells
        have hcz : (c w.heap.size).1 = 0 := H.gd _ (Nat.le_refl _)
        refine HB.setOther ?_ (by dsimp only; omega) _
        refine HB.mvk (hb0.alloc _) hmv2 ?_
        intro e
        rw [e] at hcz
        exact H.sd hcz
  case rest =>
    obtain ⟨rfl, ⟨c3, x3, y, H3, hm3, hl3, hy3, hyn⟩, hbx⟩ := hcut
    obtain ⟨b0, b1, b2, b3, b4, b5, b6, b7, b8, b9, b10⟩ := hbx.node
    have HY := Lib.hid (And.intro hl3 (And.intro hy3 hyn))
    have h3l : X.cs.length < x3.cs.length := by omega
    clear hl3 hy3 hyn AVw e0
    cases tt : tmplB x.nd
    · have TT := Lib.hid tt
      by_cases t1 : x.nd.kind = 3
      · have t1' : (x.nd.kind == 3) = true := by simp [t1]
        by_cases t2 : x.nd.space = 0
        · have t2' : (x.nd.space == 0) = true := by simp [t2]
          have t3' : (x.nd.name.toList == [116, 101, 109, 112, 108, 97, 116, 101]) = false := by
            rw [← toList_mk [116, 101, 109, 112, 108, 97, 116, 101]]
            have h3 : (decide (x.nd.kind = 3) && decide (x.nd.space = 0) && eqS x.nd.name nTemplate) = false := tt
            rw [decide_eq_true t1, decide_eq_true t2] at h3
            exact h3
          clear t1 t2 tt
          go_wp2_with fail
          go_ret
          exact ⟨ret_int (by rw [HL.out]), c3, ⟨x3, by rw [show addN st.ns x.nd = st.ns ++ [bareNd x.nd] by unfold addN; rw [TT.out]; rfl]; exact H3⟩, hm3⟩
        · have t2' : (x.nd.space == 0) = false := by simp [t2]
          clear t1 t2 tt
          go_wp2_with fail
          go_ret
          exact ⟨ret_int (by rw [HL.out]), c3, ⟨x3, by rw [show addN st.ns x.nd = st.ns ++ [bareNd x.nd] by unfold addN; rw [TT.out]; rfl]; exact H3⟩, hm3⟩
      · have t1' : (x.nd.kind == 3) = false := by simp [t1]
        clear t1 tt
        go_wp2_with fail
        go_ret
        exact ⟨ret_int (by rw [HL.out]), c3, ⟨x3, by rw [show addN st.ns x.nd = st.ns ++ [bareNd x.nd] by unfold addN; rw [TT.out]; rfl]; exact H3⟩, hm3⟩
    · have TT := Lib.hid tt
      have h3 : (decide (x.nd.kind = 3) && decide (x.nd.space = 0) && eqS x.nd.name nTemplate) = true := tt
      simp only [Bool.and_eq_true, decide_eq_true_eq] at h3
      obtain ⟨⟨t1, t2⟩, t3⟩ := h3
      have t1' : (x.nd.kind == 3) = true := by simp [t1]
      have t2' : (x.nd.space == 0) = true := by simp [t2]
      have t3' : (x.nd.name.toList == [116, 101, 109, 112, 108, 97, 116, 101]) = true := by
        rw [← toList_mk [116, 101, 109, 112, 108, 97, 116, 101]]
        exact t3
      clear t1 t2 t3 tt
      have AV3 := H3.av (by
        have := HL.out
        simp
        omega)
      obtain ⟨-, -, -, -, -, -, -, n7, -⟩ := AV3.node HY.out.2.1
      have a3 := AV3.1
      have f3 : wc.frozen? ⟨x3.gn, X.cs.length * 11 + 7, none⟩ = false := by
        obtain ⟨g, hg, -, -, -, hf⟩ := H3.nodes.row.at_ (by omega)
        simp only [Option.some.injEq, Addr.mk.injEq, and_true] at hg
        rw [hg]
        exact hf _
      have hi0' : (0 : Int) ≤ (X.cs.length : Int) := by omega
      have hi1' : (X.cs.length : Int) < (x3.cs.length : Int) := by omega
      go_upto_region 7 with fail
      obtain ⟨H4, hm4⟩ := setNode (y' := { y with nd := { y.nd with content := (X.cs.length : Int) + 1 } }) (v := .int .i64 ((X.cs.length : Int) + 1)) H3 HY.out.2.1 (j := 7) (by omega) rfl ⟨rfl, rfl, rfl⟩ ⟨rfl, rfl, rfl⟩
      generalize hw4 : wc.setCell ⟨x3.gn, X.cs.length * 11 + 7, none⟩ (.int .i64 ((X.cs.length : Int) + 1)) = w4 at *
      clear hw4 n7 a3 f3 AV3 b0 b1 b2 b3 b4 b5 b6 b7 b8 b9 b10
      have hl4 : (x3.cs.set X.cs.length { y with nd := { y.nd with content := (X.cs.length : Int) + 1 } }).length = x3.cs.length := by simp
      have e4 : w4.cell? ⟨h.a, 0, none⟩ = some (.slice (some ⟨x3.gn, 0, none⟩) x3.cs.length x3.ncap) := by rw [← hl4]; exact H4.ha.cell 0
      have hal4 := H4.ha.lt
      have h3le : x3.cs.length ≤ 100000001 := by have := HY.out.1; omega
      have R4 : RowOk w4 c3 (h.sd, 3, 0) 58 11 (some ⟨x3.gn, 0, none⟩) x3.cs.length x3.ncap ((x3.cs.set X.cs.length { y with nd := { y.nd with content := (X.cs.length : Int) + 1 } }).flatMap NdC.cells) := by
        have := H4.nodes.row
        rw [hl4] at this
        exact this
      have HL4 := Lib.hid hl4
      clear hl4
      go_region_law (first
        | (refine step_append_row _ c3 (h.sd, 3, 0) rfl (.tmp 56) (.tmp 59) 71 rfl 58 i0 _ 11 136 Tryz.underlying71 hi0 hz0 hz1 hz2 rfl (by decide) _ x3.cs.length x3.ncap _ rfl (by exact R4.kp (kp_below (below_alloc hB _))) _ 1 1 (NdC.cells { nd := contentNd, aA := A1, acap := cp1, kA := none, kcap := 0 }) rfl (by rfl) (by simp) (by exact news_new _ _ _) (NdC.one _) (by unfold maxLen; omega) (by omega) ?_; intro A2 cp2 w2 c2 hrow2 hmv2; obtain ⟨k1, k2, k3⟩ := appNodes H4 (below_alloc hB _) hmv2)
        | (go_simp; go_at_call 119; (refine Calls.mono (aBareL _ { nd := { contentNd with parent := 0 }, aA := none, acap := 0, kA := none, kcap := 0 } (by decide) ⟨fun _ => rfl, fun _ e => by cases e⟩) ?_; rintro e w1 ⟨A1, cp1, rfl, hb1, hr1⟩; have hB : Below w4.heap.size w4 w1 := below_step (below_drew (Below.refl _ _)) hb1; have hq1 : h.a < w1.heap.size := Nat.lt_of_lt_of_le hal4 hB.size; have q1 : w1.cell? ⟨h.a, 0, none⟩ = some (.slice (some ⟨x3.gn, 0, none⟩) x3.cs.length x3.ncap) := by rw [hB.cell hal4]; exact e4)))
      all_goals
        go_wp2_with fail
        go_ret
        have hrn : RowNew w4.heap.size w1 84 2 A1 contentNd.attrs.length cp1 (attrCells contentNd.attrs) := by
          refine hr1.more ?_
          simp
        have ad := addOne H4 { nd := contentNd, aA := A1, acap := cp1, kA := none, kcap := 0 } rfl rfl rfl hB hrn _ (by rw [HL4.out]; exact hrow2) hmv2
        simp only [List.length_set] at ad
        obtain ⟨c5, x5, g1, g2, -⟩ := ad
        refine ⟨ret_int (by rw [HL.out]), c5, ⟨x5, ?_⟩, hm3.trans (hm4.trans g2)⟩
        rw [show addN st.ns x.nd = (st.ns ++ [bareNd x.nd]).set X.cs.length { y.nd with content := (X.cs.length : Int) + 1 } ++ [contentNd] by
          unfold addN
          rw [TT.out, HY.out.2.2, HL.out]
          simp]
        exact g1
end Go.Proofs.YtjmlkmlbhfkhbaaGreatDoor
