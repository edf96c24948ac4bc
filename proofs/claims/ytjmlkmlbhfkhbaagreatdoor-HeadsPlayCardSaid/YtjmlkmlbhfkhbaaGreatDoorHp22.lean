/-
  The reference's Place (179) and Last (177), above (172).
  Changes of the reference's state in memory: a node more; a cell of a node; kids of a node; open elements.
  The reference's Add (140).
-/
import Derived.Test.YtjmlkmlbhfkhbaaGreatDoorHp21
import Derived.Deep.RegionLaw
set_option linter.unusedSimpArgs false
set_option linter.unusedVariables false
namespace Go.Proofs.YtjmlkmlbhfkhbaaGreatDoor
open Go Go.RowKit

section
variable {w : World} {c : Col} {h : Sd} {st : St}

set_option maxHeartbeats 2000000 in
theorem rPlace (H : SRep w c h st) (hf : st.foster = false) {t : Nat} {n : Nd} (hi : st.ns[t]? = some n) :
    Calls Tryz.prog 179 #[.pointer (some ⟨h.g, 0, none⟩), .int .i64 t] w fun e w' => e = .returned (.tuple #[.int .i64 (placeOf t n), .int .i64 (-1)]) ∧ w = w' := by
  have HT := Lib.hid (rHtml H hi nTemplate)
  obtain ⟨X, H⟩ := H
  obtain ⟨b0, -, -, -, -, -, -, -, -, b9, -⟩ := H.bc
  rw [hf] at b9
  obtain ⟨gn, y, hA, hy, rfl, hlt, -, q, -⟩ := H.node hi
  have t7 := q 7 (by decide)
  simp only [NdC.cells, List.getElem?_cons_succ, List.getElem?_cons_zero] at t7
  rw [hA] at b0
  have h0 : (0 : Int) ≤ (t : Int) := by omega
  have h1 : (t : Int) < (X.cs.length : Int) := by omega
  clear H q hi hA hy hf
  cases hq : htmlN y.nd [nTemplate]
  · rw [hq] at HT
    have E : Hid (placeOf t y.nd = (t : Int)) := Lib.hid (by unfold placeOf; rw [hq]; simp)
    clear hq
    go_enter Tryz.func179, Tryz.ntmps179
    go_wp2_with fail
    refine HT.out.mono ?_
    rintro e w1 ⟨rfl, rfl⟩
    go_wp2_with fail
    refine bodyPost_ret (results_tmp2 rfl _ _ _) rfl ?_
    exact ⟨by rw [E.out]; rfl, rfl⟩
  · rw [hq] at HT
    have E : Hid (placeOf t y.nd = y.nd.content) := Lib.hid (by unfold placeOf; rw [hq]; simp)
    clear hq
    go_enter Tryz.func179, Tryz.ntmps179
    go_wp2_with fail
    refine HT.out.mono ?_
    rintro e w1 ⟨rfl, rfl⟩
    go_wp2_with fail
    refine bodyPost_ret (results_tmp2 rfl _ _ _) rfl ?_
    exact ⟨by rw [E.out]; rfl, rfl⟩

set_option maxHeartbeats 2000000 in
theorem rLast (H : SRep w c h st) (hl : st.stk.length ≤ 1000000) (hop : OpenOk st) (name : Str) :
    Calls Tryz.prog 177 #[.pointer (some ⟨h.g, 0, none⟩), .string name] w fun e w' => e = .returned (.int .i64 (lastOf st.stk [name])) ∧ w = w' := by
  have HT := Lib.hid (fun (i : Nat) (n : Nd) (hi : st.ns[i]? = some n) => rHtml H hi name)
  obtain ⟨X, H⟩ := H
  have b1 := H.bc.2.1
  have RW := Lib.hid H.opn
  have HOP := Lib.hid hop
  clear H hop
  go_enter Tryz.func177, Tryz.ntmps177
  go_wp2_with fail
  go_loop [5] (fun t => ∃ k : Nat, k ≤ st.stk.length ∧ t = .int .i64 ((k : Int) - 1) ∧ Hid (lastFrom st.stk [name] k = lastOf st.stk [name])) (fun t => (intOf t + 1).toNat)
  case atStart => exact ⟨st.stk.length, Nat.le_refl _, by first | rfl | (simp; unfold wrap64; omega), Lib.hid rfl⟩
  case round =>
    obtain ⟨k, hk, rfl, hF⟩ := hrel
    by_cases h0 : 0 < k
    · obtain ⟨k, rfl⟩ : ∃ m, k = m + 1 := ⟨k - 1, by omega⟩
      obtain ⟨o, ho⟩ : ∃ o, st.stk[k]? = some o := ⟨_, List.getElem?_eq_getElem (by omega)⟩
      obtain ⟨i, n, e1, e2, e3, e4, e5⟩ := HOP.out k o ho
      obtain ⟨g, hA, -, -, hc, -⟩ := RW.out.at_ (by omega)
      have c0 := hc k (.int .i64 (i : Int)) (by unfold intCells opens; simp [ho, e1])
      have C := Lib.hid (HT.out i n e2)
      have hh : htmlN n [name] = isH o [name] := by unfold htmlN isH; rw [e3, e4, e5]; simp
      rw [hh] at C
      have hst : lastFrom st.stk [name] (k + 1) = if isH o [name] then (k : Int) else lastFrom st.stk [name] k := by rw [lastFrom, ho]
      rw [hst] at hF
      rw [hA] at b1
      rw [show ((k + 1 : Nat) : Int) - 1 = (k : Int) by omega]
      have h1 : (0 : Int) ≤ (k : Int) := by omega
      have h2 : (k : Int) < (st.stk.length : Int) := by omega
      have HF := Lib.hid hF.out
      clear ho e1 e2 e3 e4 e5 hc hA hh hst hF
      cases hq : isH o [name]
      · rw [hq] at C
        have HF2 : Hid (lastFrom st.stk [name] k = lastOf st.stk [name]) := Lib.hid (by have := HF.out; rwa [hq, if_neg (by simp)] at this)
        clear HF hq
        go_wp2_with fail
        refine C.out.mono ?_
        rintro e w1 ⟨rfl, rfl⟩
        go_wp2_with fail
        go_round
        case rel => exact ⟨k, by omega, rfl, HF2⟩
        case measure => simp [intOf]
      · rw [hq] at C
        have HF2 : Hid ((k : Int) = lastOf st.stk [name]) := Lib.hid (by have := HF.out; rwa [hq, if_pos rfl] at this)
        clear HF hq
        go_wp2_with fail
        refine C.out.mono ?_
        rintro e w1 ⟨rfl, rfl⟩
        go_wp2_with fail
        go_ret
        exact ⟨ret_int HF2.out, rfl⟩
    · obtain rfl : k = 0 := by omega
      have HF2 := Lib.hid hF.out
      clear hF
      go_wp2_with fail
      go_ret
      exact ⟨ret_int HF2.out, rfl⟩
end
end Go.Proofs.YtjmlkmlbhfkhbaaGreatDoor
namespace Go.Proofs.YtjmlkmlbhfkhbaaGreatDoor
open Go Go.RowKit

/-- All but some parts stays. -/
theorem SRepX.rest {w w' : World} {c c' : Col} {h : Sd} {x : SSh} {st : St} (H : SRepX w c h x st) {S : Key → Prop} (hm : Mv S w c w' c') :
    (¬ S (h.sd, 1, 0) → Blk w' c' (h.sd, 1, 0) h.g 79 (sCells x st)) ∧ (¬ S (h.sd, 3, 0) → RowOk w' c' (h.sd, 3, 0) 58 11 x.nA x.cs.length x.ncap (x.cs.flatMap NdC.cells)) ∧
    (∀ i y, x.cs[i]? = some y → ¬ S (h.sd, 4, i) → RowOk w' c' (h.sd, 4, i) 3 1 y.kA y.nd.kids.length y.kcap (intCells y.nd.kids)) ∧
    (∀ i y, x.cs[i]? = some y → ¬ S (h.sd, 5, i) → RowOk w' c' (h.sd, 5, i) 84 2 y.aA y.nd.attrs.length y.acap (attrCells y.nd.attrs)) ∧
    (¬ S (h.sd, 7, 0) → RowOk w' c' (h.sd, 7, 0) 3 1 x.oA st.stk.length x.ocap (intCells (opens st.stk))) ∧ (¬ S (h.sd, 9, 0) → RowOk w' c' (h.sd, 9, 0) 112 2 x.lA st.fmt.length x.lcap (entCells st.fmt)) ∧
    (¬ S (h.sd, 10, 0) → RowOk w' c' (h.sd, 10, 0) 3 1 x.mA st.modes.length x.mcap (intCells st.modes)) :=
  ⟨fun k => H.hb.kp (hm.kp k), fun k => H.row.kp (hm.kp k), fun i y hy k => (H.each i y hy).1.kp (hm.kp k), fun i y hy k => (H.each i y hy).2.kp (hm.kp k), fun k => H.opn.kp (hm.kp k), fun k => H.lst.kp (hm.kp k), fun k => H.modes.kp (hm.kp k)⟩

def AddK (h : Sd) (n : Nat) : Key → Prop := fun k => k = (h.sd, 5, n) ∨ k = (h.sd, 3, 0)

theorem sAddOne {w w4 : World} {c c4 : Col} {h : Sd} {x : SSh} {st : St} (H : SRepX w c h x st) (y : NdC) (hk : y.nd.kids = []) (hkA : y.kA = none) (hkc : y.kcap = 0)
    (hm : Mv (AddK h x.cs.length) w c w4 c4) (hat : RowOk w4 c4 (h.sd, 5, x.cs.length) 84 2 y.aA y.nd.attrs.length y.acap (attrCells y.nd.attrs))
    {A : Option Addr} {cap : Nat} (hrow : RowOk w4 c4 (h.sd, 3, 0) 58 11 A (x.cs.length + 1) cap (x.cs.flatMap NdC.cells ++ y.cells)) :
    SRepX (w4.setCell ⟨h.g, 0, none⟩ (.slice A (x.cs.length + 1) cap)) c4 h { x with nA := A, ncap := cap, cs := x.cs ++ [y] } { st with ns := st.ns ++ [y.nd] } ∧
      Mv (PrS h) w c (w4.setCell ⟨h.g, 0, none⟩ (.slice A (x.cs.length + 1) cap)) c4 := by
  obtain ⟨r1, -, r4, r5, r7, r9, r10⟩ := H.rest hm
  have hb4 := r1 (by unfold AddK; simp)
  have k2 : ∀ p i, p ≠ 1 → Kp (h.sd, p, i) w4 c4 (w4.setCell ⟨h.g, 0, none⟩ (.slice A (x.cs.length + 1) cap)) c4 := fun p i hp => kp_setCell (by rw [hb4.1]; simp; omega) _
  have s2 : Mv (PrS h) w4 c4 (w4.setCell ⟨h.g, 0, none⟩ (.slice A (x.cs.length + 1) cap)) c4 := Mv.setCell (show (c4 h.g).1 = h.sd by rw [hb4.1]) _
  have m1 : Mv (PrS h) w c w4 c4 := hm.mono fun k e => by rcases e with e | e <;> (rw [e]; rfl)
  have sm := m1.trans s2
  refine ⟨⟨sm.gd H.gd, H.sd, ?_, ?_, ?_, by simp [H.ns], (r7 (by unfold AddK; simp)).kp (k2 _ _ (by decide)), (r9 (by unfold AddK; simp)).kp (k2 _ _ (by decide)), (r10 (by unfold AddK; simp)).kp (k2 _ _ (by decide)), H.ask⟩, sm⟩
  · have := hb4.set_ 0 (.slice A (x.cs.length + 1) cap)
    have e : sCells { x with nA := A, ncap := cap, cs := x.cs ++ [y] } { st with ns := st.ns ++ [y.nd] } = (sCells x st).set 0 (.slice A (x.cs.length + 1) cap) := by
      unfold sCells
      simp
    rw [e]; exact this
  · have := hrow.kp (k2 3 0 (by decide))
    simpa using this
  · intro i z hz
    by_cases hi : i < x.cs.length
    · rw [List.getElem?_append_left hi] at hz
      exact ⟨(r4 i z hz (by unfold AddK; simp)).kp (k2 _ _ (by decide)), (r5 i z hz (by unfold AddK; simp; omega)).kp (k2 _ _ (by decide))⟩
    · rw [List.getElem?_append_right (by omega)] at hz
      have h0 : i = x.cs.length := by
        have := (List.getElem?_eq_some_iff.1 hz).1
        simp at this; omega
      subst h0
      obtain rfl : y = z := by simpa using hz
      refine ⟨?_, hat.kp (k2 _ _ (by decide))⟩
      rw [hk, hkA, hkc]
      exact RowOk.none_

/-- A cell of a node is written that is no slice. -/
theorem sNode {w : World} {c : Col} {h : Sd} {x : SSh} {st : St} (H : SRepX w c h x st) {gn i j : Nat} {y y' : NdC} {v : Value} (hA : x.nA = some ⟨gn, 0, none⟩) (hy : x.cs[i]? = some y) (hj : j < 11) (hc : y'.cells = y.cells.set j v)
    (r1 : y'.kA = y.kA ∧ y'.kcap = y.kcap ∧ y'.nd.kids = y.nd.kids) (r2 : y'.aA = y.aA ∧ y'.acap = y.acap ∧ y'.nd.attrs = y.nd.attrs) :
    SRepX (w.setCell ⟨gn, i * 11 + j, none⟩ v) c h { x with cs := x.cs.set i y' } { st with ns := st.ns.set i y'.nd } ∧ Mv (PrS h) w c (w.setCell ⟨gn, i * 11 + j, none⟩ v) c := by
  have hi : i < x.cs.length := (List.getElem?_eq_some_iff.1 hy).1
  have hrow0 := H.row
  rw [hA] at hrow0
  obtain ⟨g', hg', hcg, hlt, -, -⟩ := hrow0.at_ (by omega)
  simp only [Option.some.injEq, Addr.mk.injEq, and_true] at hg'
  rw [← hg'] at hcg
  have k2 : ∀ p i', p ≠ 3 → Kp (h.sd, p, i') w c (w.setCell ⟨gn, i * 11 + j, none⟩ v) c := fun p i' hp => kp_setCell (by rw [hcg]; simp; omega) v
  have s2 : Mv (PrS h) w c (w.setCell ⟨gn, i * 11 + j, none⟩ v) c := Mv.setCell (show (c gn).1 = h.sd by rw [hcg]) v
  have hcells : sCells { x with cs := x.cs.set i y' } { st with ns := st.ns.set i y'.nd } = sCells x st := by
    unfold sCells; simp
  refine ⟨⟨s2.gd H.gd, H.sd, by rw [hcells]; exact H.hb.kp (k2 _ _ (by decide)), ?_, ?_, by simp [← H.ns, List.map_set], H.opn.kp (k2 _ _ (by decide)), H.lst.kp (k2 _ _ (by decide)), H.modes.kp (k2 _ _ (by decide)), H.ask⟩, s2⟩
  · have := hrow0.set_ (j := i * 11 + j) (by rw [flat_len]; omega) v
    rw [flat_set x.cs i j y y' v hy hj hc, ← hA] at this
    simpa using this
  · intro i' z hz
    simp only [List.getElem?_set] at hz
    split at hz
    · rename_i he
      subst he
      obtain rfl := Option.some.inj (by simpa [hi] using hz : some y' = some z)
      have o := H.each i y hy
      refine ⟨?_, ?_⟩
      · rw [r1.1, r1.2.1, r1.2.2]; exact o.1.kp (k2 _ _ (by decide))
      · rw [r2.1, r2.2.1, r2.2.2]; exact o.2.kp (k2 _ _ (by decide))
    · exact ⟨(H.each i' z hz).1.kp (k2 _ _ (by decide)), (H.each i' z hz).2.kp (k2 _ _ (by decide))⟩

/-- Other kids of a node. -/
theorem sKids {w w2 : World} {c c2 : Col} {h : Sd} {x : SSh} {st : St} (H : SRepX w c h x st) {gn p : Nat} {y : NdC} (hA : x.nA = some ⟨gn, 0, none⟩) (hy : x.cs[p]? = some y)
    {A : Option Addr} {cap : Nat} {ks : List Int} (hrow : RowOk w2 c2 (h.sd, 4, p) 3 1 A ks.length cap (intCells ks)) (hm : Mv (· = (h.sd, 4, p)) w c w2 c2) :
    SRepX (w2.setCell ⟨gn, p * 11 + 8, none⟩ (.slice A ks.length cap)) c2 h { x with cs := x.cs.set p { y with nd := { y.nd with kids := ks }, kA := A, kcap := cap } }
      { st with ns := st.ns.set p { y.nd with kids := ks } } ∧ Mv (PrS h) w c (w2.setCell ⟨gn, p * 11 + 8, none⟩ (.slice A ks.length cap)) c2 := by
  have hi : p < x.cs.length := (List.getElem?_eq_some_iff.1 hy).1
  obtain ⟨r1, r3, r4, r5, r7, r9, r10⟩ := H.rest hm
  have hrow0 := r3 (by simp)
  rw [hA] at hrow0
  obtain ⟨g', hg', hcg, hlt, -, -⟩ := hrow0.at_ (by omega)
  simp only [Option.some.injEq, Addr.mk.injEq, and_true] at hg'
  rw [← hg'] at hcg
  have k2 : ∀ q i', q ≠ 3 → Kp (h.sd, q, i') w2 c2 (w2.setCell ⟨gn, p * 11 + 8, none⟩ (.slice A ks.length cap)) c2 := fun q i' hp => kp_setCell (by rw [hcg]; simp; omega) _
  have s2 : Mv (PrS h) w2 c2 (w2.setCell ⟨gn, p * 11 + 8, none⟩ (.slice A ks.length cap)) c2 := Mv.setCell (show (c2 gn).1 = h.sd by rw [hcg]) _
  have sm := (hm.mono (T := PrS h) fun k e => by rw [e]; rfl).trans s2
  have hcells : sCells { x with cs := x.cs.set p { y with nd := { y.nd with kids := ks }, kA := A, kcap := cap } } { st with ns := st.ns.set p { y.nd with kids := ks } } = sCells x st := by
    unfold sCells; simp
  refine ⟨⟨sm.gd H.gd, H.sd, by rw [hcells]; exact (r1 (by simp)).kp (k2 _ _ (by decide)), ?_, ?_, by simp [← H.ns, List.map_set], (r7 (by simp)).kp (k2 _ _ (by decide)), (r9 (by simp)).kp (k2 _ _ (by decide)), (r10 (by simp)).kp (k2 _ _ (by decide)), H.ask⟩, sm⟩
  · have := hrow0.set_ (j := p * 11 + 8) (by rw [flat_len]; omega) (.slice A ks.length cap)
    rw [flat_set x.cs p 8 y { y with nd := { y.nd with kids := ks }, kA := A, kcap := cap } _ hy (by omega) rfl, ← hA] at this
    simpa using this
  · intro i' z hz
    simp only [List.getElem?_set] at hz
    split at hz
    · rename_i he
      subst he
      obtain rfl := Option.some.inj (by simpa [hi] using hz : some ({ y with nd := { y.nd with kids := ks }, kA := A, kcap := cap } : NdC) = some z)
      exact ⟨hrow.kp (k2 _ _ (by decide)), (r5 p y hy (by simp)).kp (k2 _ _ (by decide))⟩
    · rename_i he
      exact ⟨(r4 i' z hz (by simp; omega)).kp (k2 _ _ (by decide)), (r5 i' z hz (by simp)).kp (k2 _ _ (by decide))⟩

/-- Other open elements. -/
theorem sOpen {w w2 : World} {c c2 : Col} {h : Sd} {x : SSh} {st : St} (H : SRepX w c h x st) {A : Option Addr} {cap : Nat} {l : List OpE}
    (hrow : RowOk w2 c2 (h.sd, 7, 0) 3 1 A l.length cap (intCells (opens l))) (hm : Mv (· = (h.sd, 7, 0)) w c w2 c2) :
    SRepX (w2.setCell ⟨h.g, 1, none⟩ (.slice A l.length cap)) c2 h { x with oA := A, ocap := cap } { st with stk := l } ∧ Mv (PrS h) w c (w2.setCell ⟨h.g, 1, none⟩ (.slice A l.length cap)) c2 := by
  obtain ⟨r1, r3, r4, r5, -, r9, r10⟩ := H.rest hm
  have hb := r1 (by simp)
  have k2 : ∀ q i', q ≠ 1 → Kp (h.sd, q, i') w2 c2 (w2.setCell ⟨h.g, 1, none⟩ (.slice A l.length cap)) c2 := fun q i' hp => kp_setCell (by rw [hb.1]; simp; omega) _
  have s2 : Mv (PrS h) w2 c2 (w2.setCell ⟨h.g, 1, none⟩ (.slice A l.length cap)) c2 := Mv.setCell (show (c2 h.g).1 = h.sd by rw [hb.1]) _
  have sm := (hm.mono (T := PrS h) fun k e => by rw [e]; rfl).trans s2
  exact ⟨⟨sm.gd H.gd, H.sd, hb.set_ 1 (.slice A l.length cap), (r3 (by simp)).kp (k2 _ _ (by decide)), fun i y hy => ⟨(r4 i y hy (by simp)).kp (k2 _ _ (by decide)), (r5 i y hy (by simp)).kp (k2 _ _ (by decide))⟩, H.ns, hrow.kp (k2 _ _ (by decide)), (r9 (by simp)).kp (k2 _ _ (by decide)), (r10 (by simp)).kp (k2 _ _ (by decide)), H.ask⟩, sm⟩
end Go.Proofs.YtjmlkmlbhfkhbaaGreatDoor
namespace Go.Proofs.YtjmlkmlbhfkhbaaGreatDoor
open Go Go.RowKit

/-- Behind the node is laid. -/
def AddMidS (h : Sd) (st1 : St) (w : World) (c : Col) (n : Nat) (s5 : Value) (wx : World) : Prop := s5 = .int .i64 n ∧ ∃ c1, SRep wx c1 h st1 ∧ Mv (PrS h) w c wx c1

set_option maxRecDepth 100000 in
set_option maxHeartbeats 8000000 in
theorem rAdd {w : World} {c : Col} {h : Sd} {st : St} (H : SRep w c h st) (y : NdC) (hlen : st.ns.length ≤ 1000000) (hna : y.nd.attrs.length ≤ 1000000) (hs : Src w y.aA (attrCells y.nd.attrs)) :
    Calls Tryz.prog 140 #[.pointer (some ⟨h.g, 0, none⟩), y.val] w (OkS h { st with ns := addN st.ns y.nd } (.int .i64 st.ns.length) w c) := by
  obtain ⟨X, H⟩ := H
  have NL := Lib.hid H.nlen
  have hlen' : X.cs.length ≤ 1000000 := by rw [NL.out]; exact hlen
  clear hlen
  obtain ⟨b0, -⟩ := H.bc
  have hlt := H.hb.lt
  obtain ⟨i0, hi0, hz0, hz1, hz2⟩ := info_parts info58
  obtain ⟨j0, hj0, hy0, hy1, hy2⟩ := info_parts info84
  have HS := Lib.hid (fun (W : World) (hb : Below w.heap.size w W) => hs.loc hb)
  have hcz : (c w.heap.size).1 = 0 := H.gd _ (Nat.le_refl _)
  have HCZ := Lib.hid hcz
  have HH := Lib.hid H
  have hAl : y.aA = none → y.nd.attrs.length = 0 := fun e => by
    have := hs.1 e
    have h2 := congrArg List.length this
    rw [attrCells_len, List.length_nil] at h2
    omega
  have HAL := Lib.hid hAl
  clear hs hAl hcz
  unfold NdC.val NdC.cells
  go_enter Tryz.func140, Tryz.ntmps140
  go_wp2_with (at_builtin; refine wpList_append_row _ c (h.sd, 5, X.cs.length) rfl _ _ 22 rfl 84 j0 _ 2 32 Tryz.underlying22 hj0 hy0 hy1 hy2 rfl (by decide) none 0 0 [] rfl (by exact RowOk.none_) y.aA y.nd.attrs.length y.acap (attrCells y.nd.attrs) rfl (by exact attrCells_len _) (by exact HAL.out) (by exact (HS.out _ (below_alloc (Below.refl _ _) _)).2) (by exact attrCells_one _) (by unfold maxLen; omega) (by omega) ?_; intro A2 cp2 w2 c2 hrow2 hmv2; have hm0 : Mv (· = (h.sd, 5, X.cs.length)) w c w2 c2 := Mv.trans (Mv.of_below (below_alloc (Below.refl _ _) _)) hmv2; have hbx : HB w2 w.heap.size 58 (NdC.cells ⟨bareNd y.nd, y.aA, y.acap, none, 0⟩) := HB.mvk (HB.new w 58 (NdC.cells ⟨bareNd y.nd, y.aA, y.acap, none, 0⟩)) hmv2 (fun e => HH.out.sd (by have := HCZ.out; rw [e] at this; exact this)); obtain ⟨d0, d1, d2, d3, d4, d5, d6, d7, d8, d9, d10⟩ := hbx.node; have df := hbx.frozen; have dl := hbx.lt)
  have ROW : Hid (RowOk (w2.setCell ⟨w.heap.size, 4, none⟩ (.slice A2 y.nd.attrs.length cp2)) c2 (h.sd, 3, 0) 58 11 X.nA X.cs.length X.ncap (X.cs.flatMap NdC.cells) ∧
      RowOk (w2.setCell ⟨w.heap.size, 4, none⟩ (.slice A2 y.nd.attrs.length cp2)) c2 (h.sd, 5, X.cs.length) 84 2 A2 y.nd.attrs.length cp2 (attrCells y.nd.attrs) ∧
      Mv (· = (h.sd, 5, X.cs.length)) w c (w2.setCell ⟨w.heap.size, 4, none⟩ (.slice A2 y.nd.attrs.length cp2)) c2) := Lib.hid (by
    have hc2 : (c2 w.heap.size).1 = 0 := by
      rw [hmv2.ext w.heap.size (by simp)]
      exact HCZ.out
    have kk : ∀ k : Key, k.1 = h.sd → Kp k w2 c2 (w2.setCell ⟨w.heap.size, 4, none⟩ (.slice A2 y.nd.attrs.length cp2)) c2 := fun k hk => kp_setCell (fun e => HH.out.sd (by rw [← hk, ← e]; exact hc2)) _
    refine ⟨(HH.out.row.kp (hm0.kp (by simp))).kp (kk _ rfl), ?_, hm0.setCell' (Nat.le_refl _) _⟩
    have := hrow2.kp (kk (h.sd, 5, X.cs.length) rfl)
    simpa using this)
  have n0 : w2.cell? ⟨h.g, 0, none⟩ = some (.slice X.nA X.cs.length X.ncap) := (HH.out.hb.kp (hm0.kp (by simp))).cell 0
  have hne : h.g ≠ w.heap.size := by omega
  have hg2 : h.g < w2.heap.size := Nat.lt_of_lt_of_le hlt hm0.size
  obtain ⟨y2, hy2⟩ : ∃ y2 : NdC, y2 = ⟨bareNd y.nd, A2, cp2, none, 0⟩ := ⟨_, rfl⟩
  have HY2 := Lib.hid hy2
  go_cut [5] (fun s5 wx => AddMidS h { st with ns := st.ns ++ [bareNd y.nd] } w c st.ns.length s5 wx)
  case first =>
    go_region_law (refine step_append_row _ c2 (h.sd, 3, 0) rfl (.tmp 22) (.tmp 24) 71 rfl 58 i0 _ 11 136 Tryz.underlying71 hi0 hz0 hz1 hz2 rfl (by decide) _ X.cs.length X.ncap (X.cs.flatMap NdC.cells) rfl (by exact ROW.out.1.kp (kp_below (below_alloc (below_drew (Below.refl _ _)) _))) _ 1 1 (NdC.cells ⟨bareNd y.nd, A2, cp2, none, 0⟩) rfl (by rfl) (by simp) (by exact (HB.at_ (by simp)).news) (NdC.one _) (by unfold maxLen; omega) (by omega) ?_; intro A4 cp4 w4 c4 hrow4 hmv4; have m04 : Mv (AddK h X.cs.length) w c w4 c4 := (ROW.out.2.2.mono (fun k e => .inl e)).trans ((Mv.of_below (below_alloc (below_drew (Below.refl _ _)) _)).trans (hmv4.mono (fun k e => .inr e))); have hb4 := HH.out.hb.kp (m04.kp (k := (h.sd, 1, 0)) (by unfold AddK; simp)); have p1 : w4.cell? ⟨h.g, 0, none⟩ = some (.slice X.nA X.cs.length X.ncap) := hb4.cell 0; have p2 := hb4.frozen 0; have p3 := hb4.lt)
    all_goals
      go_wp2_with fail
      go_meet
      case rel =>
        have e5 : RowOk w4 c4 (h.sd, 5, X.cs.length) 84 2 A2 y.nd.attrs.length cp2 (attrCells y.nd.attrs) := (ROW.out.2.1.kp (kp_below (below_alloc (below_drew (Below.refl _ _)) _))).kp (hmv4.kp (by simp))
        obtain ⟨S1, S2⟩ := sAddOne HH.out ⟨bareNd y.nd, A2, cp2, none, 0⟩ rfl rfl rfl m04 e5 hrow4
        exact ⟨by rw [NL.out], c4, ⟨_, S1⟩, S2⟩
  case rest =>
    obtain ⟨rfl, c1, H1, m1⟩ := hcut
    have hn1 : (st.ns ++ [bareNd y.nd])[st.ns.length]? = some (bareNd y.nd) := by simp
    have HT := Lib.hid (rHtml H1 (i := st.ns.length) hn1 nTemplate)
    rw [htmlN_congr (m := bareNd y.nd) (n := y.nd) rfl rfl rfl, ← tmplB_htmlN] at HT
    clear d0 d1 d2 d3 d4 d5 d6 d7 d8 d9 d10 df dl n0 hne hg2 hrow2 hmv2 hm0 hbx ROW
    cases tt : tmplB y.nd
    · rw [tt] at HT
      have E : Hid (addN st.ns y.nd = st.ns ++ [bareNd y.nd]) := Lib.hid (by unfold addN; rw [tt]; rfl)
      have FIN := Lib.hid (And.intro H1 m1)
      clear tt H1 m1 hn1
      go_wp2_with fail
      refine HT.out.mono ?_
      rintro e w5 ⟨rfl, rfl⟩
      go_wp2_with fail
      go_ret
      rw [E.out]
      exact ⟨rfl, c1, FIN.out.1, FIN.out.2⟩
    · rw [tt] at HT
      have E : Hid (addN st.ns y.nd = (st.ns ++ [{ bareNd y.nd with content := (st.ns.length : Int) + 1 }]) ++ [contentNd]) := Lib.hid (by unfold addN; rw [tt]; simp)
      obtain ⟨X1, H1⟩ := H1
      have nl1 : X1.cs.length = st.ns.length + 1 := by rw [H1.nlen]; simp
      obtain ⟨gn, y1, hA1, hyy, e1, hl1, hgl, q1, qf⟩ := H1.node hn1
      obtain ⟨SN, SM⟩ := sNode H1 (i := st.ns.length) (j := 7) (y' := { y1 with nd := { y1.nd with content := (st.ns.length : Int) + 1 } }) (v := .int .i64 ((st.ns.length : Int) + 1)) hA1 hyy (by decide) rfl ⟨rfl, rfl, rfl⟩ ⟨rfl, rfl, rfl⟩
      have hns : (st.ns ++ [bareNd y.nd]).set st.ns.length { y1.nd with content := (st.ns.length : Int) + 1 } = st.ns ++ [{ bareNd y.nd with content := (st.ns.length : Int) + 1 }] := by rw [e1]; simp
      simp only [hns] at SN
      obtain ⟨p0, -, -, -, -, -, -, -, -, -, -, -, -, -, -, -, pf, pl⟩ := H1.bc
      have q7 := q1 7 (by decide)
      simp only [NdC.cells, List.getElem?_cons_succ, List.getElem?_cons_zero] at q7
      rw [hA1, nl1] at p0
      have qf7 := qf (st.ns.length * 11 + 7)
      have hn0 : (0 : Int) ≤ (st.ns.length : Int) := by omega
      have hn2 : (st.ns.length : Int) < ((st.ns.length + 1 : Nat) : Int) := by omega
      have hn3 : st.ns.length < st.ns.length + 1 := by omega
      have hw : IntKind.i64.wrap ((st.ns.length : Int) + 1) = (st.ns.length : Int) + 1 := by have := wrap_small (L := st.ns.length + 1) (by have := NL.out; omega); rwa [show (((st.ns.length + 1 : Nat) : Int)) = (st.ns.length : Int) + 1 by omega] at this
      have p0' : (wc.setCell ⟨gn, st.ns.length * 11 + 7, none⟩ (.int .i64 ((st.ns.length : Int) + 1))).cell? ⟨h.g, 0, none⟩ = some (.slice (some ⟨gn, 0, none⟩) (st.ns.length + 1) X1.ncap) := by
        have := SN.hb.cell 0
        simp only [sCells, List.getElem?_cons_zero, List.length_set, nl1, hA1] at this
        exact this
      have SNH := Lib.hid (And.intro SN (m1.trans SM))
      have NL1 := Lib.hid nl1
      clear tt H1 m1 hn1 hns q1 qf e1 hyy hl1 SN SM
      go_wp2_with fail
      refine HT.out.mono ?_
      rintro e w5 ⟨rfl, rfl⟩
      have ROW3 : Hid (RowOk (wc.setCell ⟨gn, st.ns.length * 11 + 7, none⟩ (.int .i64 ((st.ns.length : Int) + 1))) c1 (h.sd, 3, 0) 58 11 (some ⟨gn, 0, none⟩) (st.ns.length + 1) X1.ncap ((X1.cs.set st.ns.length { y1 with nd := { y1.nd with content := (st.ns.length : Int) + 1 } }).flatMap NdC.cells)) := Lib.hid (by
        have := SNH.out.1.row
        simp only [List.length_set, NL1.out, hA1] at this
        exact this)
      have hsl : st.ns.length ≤ 1000000 := by have := NL.out; omega
      have HA1 := Lib.hid hA1
      clear hA1
      go_wp2_with (at_builtin; refine wpList_append_row _ c1 (h.sd, 3, 0) rfl _ _ 71 rfl 58 i0 _ 11 136 Tryz.underlying71 hi0 hz0 hz1 hz2 rfl (by decide) _ (st.ns.length + 1) X1.ncap ((X1.cs.set st.ns.length { y1 with nd := { y1.nd with content := (st.ns.length : Int) + 1 } }).flatMap NdC.cells) rfl (by exact ROW3.out.kp (kp_below (below_alloc (Below.refl _ _) _))) _ 1 1 (NdC.cells ⟨contentNd, none, 0, none, 0⟩) rfl (by rfl) (by simp) (by exact (HB.at_ (by simp)).news) (NdC.one _) (by unfold maxLen; omega) (by omega) ?_; intro A4 cp4 w4 c4 hrow4 hmv4; have m04 : Mv (AddK h (st.ns.length + 1)) (wc.setCell ⟨gn, st.ns.length * 11 + 7, none⟩ (.int .i64 ((st.ns.length : Int) + 1))) c1 w4 c4 := (Mv.of_below (below_alloc (Below.refl _ _) _)).trans (hmv4.mono (fun k e => .inr e)); have hb4 := SNH.out.1.hb.kp (m04.kp (k := (h.sd, 1, 0)) (by unfold AddK; simp)); have p1 : w4.cell? ⟨h.g, 0, none⟩ = some (.slice (some ⟨gn, 0, none⟩) (st.ns.length + 1) X1.ncap) := (by have := hb4.cell 0; simp only [sCells, List.getElem?_cons_zero, List.length_set, NL1.out, HA1.out] at this; exact this); have p2 := hb4.frozen 0; have p3 := hb4.lt)
      go_ret
      have AT : RowOk w4 c4 (h.sd, 5, (X1.cs.set st.ns.length { y1 with nd := { y1.nd with content := (st.ns.length : Int) + 1 } }).length) 84 2 none 0 0 [] := RowOk.none_
      have m04' : Mv (AddK h (X1.cs.set st.ns.length { y1 with nd := { y1.nd with content := (st.ns.length : Int) + 1 } }).length) (wc.setCell ⟨gn, st.ns.length * 11 + 7, none⟩ (.int .i64 ((st.ns.length : Int) + 1))) c1 w4 c4 := by rw [List.length_set, NL1.out]; exact m04
      obtain ⟨S1, S2⟩ := sAddOne SNH.out.1 ⟨contentNd, none, 0, none, 0⟩ rfl rfl rfl m04' AT (A := A4) (cap := cp4) (by simp only [List.length_set, NL1.out]; exact hrow4)
      simp only [List.length_set, NL1.out] at S1 S2
      rw [E.out]
      exact ⟨rfl, c4, ⟨_, S1⟩, SNH.out.2.trans S2⟩
end Go.Proofs.YtjmlkmlbhfkhbaaGreatDoor
