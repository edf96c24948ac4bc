/-
  The reference's More (178).
-/
import Derived.Test.YtjmlkmlbhfkhbaaGreatDoorHp24
import Derived.BigQuiet
import Derived.Deep.RegionHeld3
set_option linter.unusedSimpArgs false
set_option linter.unusedVariables false
namespace Go.Proofs.YtjmlkmlbhfkhbaaGreatDoor
open Go Go.RowKit

/-- Other attributes of a node. -/
theorem sAttrs {w w2 : World} {c c2 : Col} {h : Sd} {x : SSh} {st : St} (H : SRepX w c h x st) {gn p : Nat} {y : NdC} (hA : x.nA = some ⟨gn, 0, none⟩) (hy : x.cs[p]? = some y)
    {A : Option Addr} {cap : Nat} {ks : List At} (hrow : RowOk w2 c2 (h.sd, 5, p) 84 2 A ks.length cap (attrCells ks)) (hm : Mv (· = (h.sd, 5, p)) w c w2 c2) :
    SRepX (w2.setCell ⟨gn, p * 11 + 4, none⟩ (.slice A ks.length cap)) c2 h { x with cs := x.cs.set p { y with nd := { y.nd with attrs := ks }, aA := A, acap := cap } }
      { st with ns := st.ns.set p { y.nd with attrs := ks } } ∧ Mv (PrS h) w c (w2.setCell ⟨gn, p * 11 + 4, none⟩ (.slice A ks.length cap)) c2 := by
  have hi : p < x.cs.length := (List.getElem?_eq_some_iff.1 hy).1
  obtain ⟨r1, r3, r4, r5, r7, r9, r10⟩ := H.rest hm
  have hrow0 := r3 (by simp)
  rw [hA] at hrow0
  obtain ⟨g', hg', hcg, hlt, -, -⟩ := hrow0.at_ (by omega)
  simp only [Option.some.injEq, Addr.mk.injEq, and_true] at hg'
  rw [← hg'] at hcg
  have k2 : ∀ q i', q ≠ 3 → Kp (h.sd, q, i') w2 c2 (w2.setCell ⟨gn, p * 11 + 4, none⟩ (.slice A ks.length cap)) c2 := fun q i' hp => kp_setCell (by rw [hcg]; simp; omega) _
  have s2 : Mv (PrS h) w2 c2 (w2.setCell ⟨gn, p * 11 + 4, none⟩ (.slice A ks.length cap)) c2 := Mv.setCell (show (c2 gn).1 = h.sd by rw [hcg]) _
  have sm := (hm.mono (T := PrS h) fun k e => by rw [e]; rfl).trans s2
  have hcells : sCells { x with cs := x.cs.set p { y with nd := { y.nd with attrs := ks }, aA := A, acap := cap } } { st with ns := st.ns.set p { y.nd with attrs := ks } } = sCells x st := by
    unfold sCells; simp
  refine ⟨⟨sm.gd H.gd, H.sd, by rw [hcells]; exact (r1 (by simp)).kp (k2 _ _ (by decide)), ?_, ?_, by simp [← H.ns, List.map_set], (r7 (by simp)).kp (k2 _ _ (by decide)), (r9 (by simp)).kp (k2 _ _ (by decide)), (r10 (by simp)).kp (k2 _ _ (by decide)), H.ask⟩, sm⟩
  · have := hrow0.set_ (j := p * 11 + 4) (by rw [flat_len]; omega) (.slice A ks.length cap)
    rw [flat_set x.cs p 4 y { y with nd := { y.nd with attrs := ks }, aA := A, acap := cap } _ hy (by omega) rfl, ← hA] at this
    simpa using this
  · intro i' z hz
    simp only [List.getElem?_set] at hz
    split at hz
    · rename_i he
      subst he
      obtain rfl := Option.some.inj (by simpa [hi] using hz : some ({ y with nd := { y.nd with attrs := ks }, aA := A, acap := cap } : NdC) = some z)
      exact ⟨(r4 p y hy (by simp)).kp (k2 _ _ (by decide)), hrow.kp (k2 _ _ (by decide))⟩
    · rename_i he
      exact ⟨(r4 i' z hz (by simp)).kp (k2 _ _ (by decide)), (r5 i' z hz (by simp; omega)).kp (k2 _ _ (by decide))⟩

theorem cell_set_other (w : World) {a : Addr} {g o : Nat} (h : ¬ g = a.block) (v : Value) : (w.setCell a v).cell? ⟨g, o, none⟩ = w.cell? ⟨g, o, none⟩ := by
  unfold World.cell?
  rw [heap_setCell_other w a g v h]
theorem hasN_all {ats : List At} {nm : Str} {k : Nat} (h : ats.length ≤ k) : hasN (ats.take k) nm = hasN ats nm := by rw [List.take_of_length_le h]

set_option maxRecDepth 100000 in
set_option maxHeartbeats 8000000 in
theorem rMore {w : World} {c : Col} {h : Sd} {st : St} (H : SRep w c h st) {N : Nat} (hs : Sz N st) (hN : N ≤ 10000000) {i : Nat} {n : Nd} (hi : st.ns[i]? = some n)
    (A : Option Addr) (l : List At) (cap : Nat) (hA : AttrsAt w c A l) (hl : l.length ≤ 1000) :
    Calls Tryz.prog 178 #[.pointer (some ⟨h.g, 0, none⟩), .int .i64 i, .slice A l.length cap] w (OkS h (moreM st i n l) (.tuple #[]) w c) := by
  have hil : i < st.ns.length := (List.getElem?_eq_some_iff.1 hi).1
  have hn := (hs.2.2 i n hi).1
  have hns := hs.1
  have hsd := H.sd
  have HH := Lib.hid H
  have ATT : Hid (∀ W C, Mv (PrS h) w c W C → ∀ (k : Nat) (p : At), l[k]? = some p → ∃ b off, A = some ⟨b, off, none⟩ ∧ W.cell? ⟨b, off + k * 2, none⟩ = some (.string p.1) ∧ W.cell? ⟨b, off + k * 2 + 1, none⟩ = some (.string p.2) ∧ (C b).1 = 0) := Lib.hid fun W C hm k p hp => by
    have hs0 := hA.mv hm (fun k e => by unfold PrS at e; rw [e]; exact hsd)
    have hs' := hs0.src
    have hne : l ≠ [] := by rintro rfl; simp at hp
    obtain ⟨q1, q2⟩ := attr_at hp
    cases hA : A with
    | none => have := hs'.1 hA; rw [this] at q1; simp at q1
    | some ad =>
      have z := (hs0.2 ad hA).1 hne
      have c1 := hs'.2 ad hA _ _ q1
      have c2 := hs'.2 ad hA _ _ q2
      obtain ⟨b, off, spot⟩ := ad
      have c0 : ∃ u, W.cell? ((⟨b, off, spot⟩ : Addr).add 0) = some u := by
        cases hl : attrCells l with
        | nil => rw [hl] at q1; simp at q1
        | cons u r => exact ⟨u, hs'.2 _ hA 0 u (by rw [hl]; rfl)⟩
      obtain ⟨u, c0⟩ := c0
      have hspot : spot = none := by simpa [Addr.add] using World.cell?_spot c0
      subst hspot
      rw [add_off] at c1 c2
      exact ⟨b, off, rfl, c1, c2, z⟩
  have e0 : moreM st i n (l.take 0) = st := by
    have e := (List.getElem?_eq_some_iff.1 hi).2
    show ({ st with ns := st.ns.set i n } : St) = st
    rw [← e, List.set_getElem_self]
  have E0 := Lib.hid e0
  obtain ⟨t0, ht0, hz0, hz1, hz2⟩ := info_parts info84
  have HI := Lib.hid hi
  clear hA e0 hs hi H hsd
  go_enter Tryz.func178, Tryz.ntmps178
  go_wp2_with fail
  go_loopw [6] (fun s6 wr => ∃ k : Nat, k ≤ l.length ∧ s6 = .int .i64 k ∧ ∃ cr, SRep wr cr h (moreM st i n (l.take k)) ∧ Mv (PrS h) w c wr cr) (fun s6 _ => l.length - (intOf s6).toNat)
  case atStart => exact ⟨0, Nat.zero_le _, rfl, c, by rw [E0.out]; exact HH.out, Mv.refl _ _ _⟩
  case round =>
    obtain ⟨k, hk', rfl, cr, Hr, mr⟩ := hrel
    obtain ⟨wo, rfl⟩ : ∃ wo : World, wo = wr := ⟨_, rfl⟩
    by_cases hlt : k < l.length
    · obtain ⟨p, hp⟩ : ∃ p, l[k]? = some p := ⟨l[k], List.getElem?_eq_getElem hlt⟩
      have MT := Lib.hid (moreL_take hp n.attrs)
      have hml := moreL_len n.attrs (l.take k)
      rw [List.length_take] at hml
      generalize hM : moreL n.attrs (l.take k) = m at *
      have hir : (moreM st i n (l.take k)).ns[i]? = some { n with attrs := m } := by
        unfold moreM
        simp only [hM]
        exact List.getElem?_set_self hil
      obtain ⟨X, HX⟩ := Hr
      obtain ⟨gn, y, hA, hy, e1, hxl, hgl, qq, qf⟩ := HX.node hir
      have a0 := HX.bc.1
      rw [hA] at a0
      have hgx := HX.hb.lt
      have a4 := qq 4 (by decide)
      simp only [NdC.cells, List.getElem?_cons_succ, List.getElem?_cons_zero] at a4
      have eat : y.nd.attrs = m := by rw [e1]
      rw [eat] at a4
      have RK := Lib.hid (HX.each i y hy).2
      rw [eat] at RK
      have i0 : (0 : Int) ≤ (i : Int) := by omega
      have i1 : (i : Int) < (X.cs.length : Int) := by omega
      have k0 : (0 : Int) ≤ (k : Int) := by omega
      have k1 : (k : Int) < (l.length : Int) := by omega
      have hw : IntKind.i64.wrap ((k : Int) + 1) = (k : Int) + 1 := by have := wrap_small (L := k + 1) (by omega); rwa [show (((k + 1 : Nat) : Int)) = (k : Int) + 1 by omega] at this
      have LP := Lib.hid (fun (W : World) (hb : Below wo.heap.size wo W) => ATT.out W cr (mr.trans (Mv.of_below hb)) k p hp)
      obtain ⟨b, off, rfl, -, -, zb⟩ := LP.out _ (Below.refl _ _)
      have KEY := Lib.hid (fun (W : World) (hb : Below wo.heap.size wo W) => And.intro (((bcell hb).1 h.g 0 hgx).trans a0) (((bcell hb).1 gn (i * 11 + 4) hgl).trans a4))
      have HXR := Lib.hid (And.intro HX (And.intro hA (And.intro hy (And.intro e1 qf))))
      have MR := Lib.hid mr
      have hmb : m.length ≤ 100000000 := by omega
      have HP := Lib.hid hp
      have hcg : cr gn = (h.sd, 3, 0) := by
        have hr := HX.row
        rw [hA] at hr
        obtain ⟨g', eg, ec, -⟩ := hr.at_ (by omega)
        obtain rfl : gn = g' := by simpa using eg
        exact ec
      have hne1 : ¬ h.g = gn := fun e => by
        have h1 := HX.hb.1
        rw [e, hcg] at h1
        simp at h1
      have hne2 : ¬ b = gn := fun e => by
        rw [e, hcg] at zb
        exact HX.sd zb
      clear HX hA hy e1 qq qf a0 a4 eat mr hir hp zb hcg
      go_wp2_with fail
      go_loopw [7, 8] (fun s7 s8 wr => ∃ j : Nat, j ≤ m.length ∧ s7 = .bool (hasN (m.take j) p.1) ∧ s8 = .int .i64 j ∧ Hid (Below wo.heap.size wo wr)) (fun _ s8 _ => m.length - (intOf s8).toNat)
      case atStart => exact ⟨0, Nat.zero_le _, rfl, rfl, Lib.hid (Below.refl _ _)⟩
      case round =>
        obtain ⟨j, hj, rfl, rfl, hR⟩ := hrel
        obtain ⟨a0, a4⟩ := KEY.out _ hR.out
        by_cases hjl : j < m.length
        · obtain ⟨q, hq⟩ : ∃ q, m[j]? = some q := ⟨_, List.getElem?_eq_getElem hjl⟩
          have HT := Lib.hid (hasN_take hq p.1)
          obtain ⟨ga, eA, -, hga, ca, -⟩ := RK.out.at_ (by omega)
          obtain ⟨q1, -⟩ := attr_at hq
          have cj := ((bcell hR.out).1 ga (j * 2) hga).trans (ca _ _ q1)
          obtain ⟨b', off', eb, p1, -, -⟩ := LP.out _ hR.out
          obtain ⟨rfl, rfl⟩ : b = b' ∧ off = off' := by simpa using eb
          rw [eA] at a4
          have j0 : (0 : Int) ≤ (j : Int) := by omega
          have j1 : (j : Int) < (m.length : Int) := by omega
          have hwj : IntKind.i64.wrap ((j : Int) + 1) = (j : Int) + 1 := by have := wrap_small (L := j + 1) (by omega); rwa [show (((j + 1 : Nat) : Int)) = (j : Int) + 1 by omega] at this
          clear hq q1 ca hga eb eA
          cases hh : hasN (m.take j) p.1
          · rw [hh, Bool.false_or] at HT
            have E := Lib.hid (show hasN (m.take (j + 1)) p.1 = (q.1.toList == p.1.toList) from HT.out)
            clear hh HT
            go_wp2_with fail
            go_quiet (fail)
            go_wp2_with fail
            go_roundw
            case rel => exact ⟨j + 1, by omega, by rw [E.out], by rfl, Lib.hid (below_step hR.out (bdrewN _ _))⟩
            case measure => simp [intOf]; omega
          · rw [hh, Bool.true_or] at HT
            have E := Lib.hid (show hasN (m.take (j + 1)) p.1 = true from HT.out)
            clear hh HT
            go_wp2_with fail
            go_quiet (fail)
            go_wp2_with fail
            go_roundw
            case rel => exact ⟨j + 1, by omega, by rw [E.out], by rfl, Lib.hid (below_step hR.out (bdrewN _ _))⟩
            case measure => simp [intOf]; omega
        · obtain rfl : j = m.length := by omega
          have g2 : ¬ (m.length : Int) < (m.length : Int) := by omega
          have HB2 := hR
          clear hR
          cases hq : hasN (m.take m.length) p.1
          · rw [hasN_all (Nat.le_refl _)] at hq
            have GROW : Hid (moreM st i n (l.take (k + 1)) = { (moreM st i n (l.take k)) with ns := (moreM st i n (l.take k)).ns.set i { y.nd with attrs := m ++ [p] } }) := Lib.hid (by
              unfold moreM
              rw [MT.out]
              simp only [hq, List.set_set, HXR.out.2.2.2.1, hM]
              rfl)
            clear hq
            obtain ⟨b', off', eb, p1, p2, -⟩ := LP.out _ HB2.out
            obtain ⟨rfl, rfl⟩ : b = b' ∧ off = off' := by simpa using eb
            have hfx : ∀ W, Below wo.heap.size wo W → W.frozen? ⟨gn, i * 11 + 4, none⟩ = false := fun W hb => ((bcell hb).2 gn (i * 11 + 4) hgl).trans (HXR.out.2.2.2.2 _)
            have HFX := Lib.hid hfx
            have NA : Hid (y.aA = none → m.length = 0) := Lib.hid (fun e => by
              rcases Nat.eq_zero_or_pos m.length with h | h
              · exact h
              · obtain ⟨g, eg, -⟩ := RK.out.at_ h
                rw [e] at eg; cases eg)
            have NW : Hid (∀ W, Below wo.heap.size wo W → ∀ ad, y.aA = some ad → ∀ j u, (attrCells m)[j]? = some u → W.cell? (ad.add j) = some u) := Lib.hid (by
              intro W hW ad e j u hu
              have hlen := (List.getElem?_eq_some_iff.1 hu).1
              rw [attrCells_len] at hlen
              obtain ⟨g, eg, -, hg, hc, -⟩ := RK.out.at_ (by omega)
              rw [eg] at e
              obtain rfl := Option.some.inj e
              rw [add_zero_at]
              exact ((bcell hW).1 g j hg).trans (hc j u hu))
            have LP1 : Hid (∀ W, Below wo.heap.size wo W → W.cell? ⟨b, off + k * 2, none⟩ = some (.string p.1)) := Lib.hid (fun W hW => by
              obtain ⟨b', off', eb, p1, -, -⟩ := LP.out _ hW
              obtain ⟨rfl, rfl⟩ : b = b' ∧ off = off' := by simpa using eb
              exact p1)
            have LP2 : Hid (∀ W, Below wo.heap.size wo W → W.cell? ⟨b, off + k * 2 + 1, none⟩ = some (.string p.2)) := Lib.hid (fun W hW => by
              obtain ⟨b', off', eb, -, p2, -⟩ := LP.out _ hW
              obtain ⟨rfl, rfl⟩ : b = b' ∧ off = off' := by simpa using eb
              exact p2)
            have hbl := block_lt_of_cell p1
            have hglr := Nat.lt_of_lt_of_le hgl HB2.out.size
            have hgxr := Nat.lt_of_lt_of_le hgx HB2.out.size
            clear eb hfx
            go_wp2_with fail
            refine wp_region_held_drew (S := fun w' => w'.cell? ⟨h.g, 0, none⟩ = some (.slice (some ⟨gn, 0, none⟩) X.cs.length X.ncap) ∧ w'.cell? ⟨b, off + k * 2, none⟩ = some (.string p.1) ∧ w'.cell? ⟨b, off + k * 2 + 1, none⟩ = some (.string p.2)) (by kernel_rfl) ?_ (fun hHeld => ?_)
            · (try dsimp only)
              first | done | go_keep | exact ⟨(cell_set_other _ hne1 _).trans u0, (cell_set_other _ hne2 _).trans y1', (cell_set_other _ hne2 _).trans y2'⟩
            refine wpAnyH_take (i := 0) (v := ?_) rfl (by kernel_rfl) (by kernel_rfl) (by kernel_rfl) (fun _ _ _ h => h) (Or.inl ⟨by rfl, ?_⟩) (by assumption) ?_
            rotate_left
            · intro w hSw
              (try dsimp only at hSw)
              go_simp
              first | done | with_reducible rfl
            try simp only [Act.put, List.setIfInBounds_toArray, List.set_cons_zero, List.set_cons_succ]
            refine wpAnyH_take (i := 1) (v := ?_) rfl (by kernel_rfl) (by kernel_rfl) (by kernel_rfl) (fun _ _ _ h => h) (Or.inl ⟨by rfl, ?_⟩) (by assumption) ?_
            rotate_left
            · intro w hSw
              (try dsimp only at hSw)
              go_simp
              first | done | with_reducible rfl
            try simp only [Act.put, List.setIfInBounds_toArray, List.set_cons_zero, List.set_cons_succ]
            refine wpAnyH_take (i := 2) (v := ?_) rfl (by kernel_rfl) (by kernel_rfl) (by kernel_rfl) (fun _ _ _ h => h) (Or.inl ⟨by rfl, ?_⟩) (by assumption) ?_
            rotate_left
            · intro w hSw
              (try dsimp only at hSw)
              go_simp
              first | done | with_reducible rfl
            try simp only [Act.put, List.setIfInBounds_toArray, List.set_cons_zero, List.set_cons_succ]
            refine wpAnyH_take (i := 3) (v := ?_) rfl (by kernel_rfl) (by kernel_rfl) (by kernel_rfl) (fun _ _ _ h => h) (Or.inl ⟨by rfl, ?_⟩) (by assumption) ?_
            rotate_left
            · intro w hSw
              (try dsimp only at hSw)
              go_simp
              first | done | with_reducible rfl
            try simp only [Act.put, List.setIfInBounds_toArray, List.set_cons_zero, List.set_cons_succ]
            refine wpAnyH_take (i := 4) (v := ?_) rfl (by kernel_rfl) (by kernel_rfl) (by kernel_rfl) (fun _ _ _ h => h) (Or.inl ⟨by rfl, ?_⟩) (by assumption) ?_
            rotate_left
            · intro w hSw
              (try dsimp only at hSw)
              go_simp
              first | done | with_reducible rfl
            try simp only [Act.put, List.setIfInBounds_toArray, List.set_cons_zero, List.set_cons_succ]
            refine wpAnyH_take (i := 5) (v := ?_) rfl (by kernel_rfl) (by kernel_rfl) (by kernel_rfl) (fun _ _ _ h => h) (Or.inl ⟨by rfl, ?_⟩) (by assumption) ?_
            rotate_left
            · intro w hSw
              (try dsimp only at hSw)
              go_simp
              first | done | with_reducible rfl
            try simp only [Act.put, List.setIfInBounds_toArray, List.set_cons_zero, List.set_cons_succ]
            refine wpAnyH_take (i := 6) (v := ?_) rfl (by kernel_rfl) (by kernel_rfl) (by kernel_rfl) (fun _ _ _ h => h) (Or.inl ⟨by rfl, ?_⟩) (by assumption) ?_
            rotate_left
            · intro w hSw
              (try dsimp only at hSw)
              go_simp
              first | done | with_reducible rfl
            try simp only [Act.put, List.setIfInBounds_toArray, List.set_cons_zero, List.set_cons_succ]
            refine wpAnyH_take (i := 7) (v := ?_) rfl (by kernel_rfl) (by kernel_rfl) (by kernel_rfl) (fun _ _ _ h => h) (Or.inl ⟨by rfl, ?_⟩) (by assumption) ?_
            rotate_left
            · intro w hSw
              (try dsimp only at hSw)
              go_simp
              first | done | with_reducible rfl
            try simp only [Act.put, List.setIfInBounds_toArray, List.set_cons_zero, List.set_cons_succ]
            refine wpAnyH_take (i := 8) (v := ?_) rfl (by kernel_rfl) (by kernel_rfl) (by kernel_rfl) (fun _ _ _ h => h) (Or.inl ⟨by rfl, ?_⟩) (by assumption) ?_
            rotate_left
            · intro w hSw
              (try dsimp only at hSw)
              go_simp
              first | done | with_reducible rfl
            try simp only [Act.put, List.setIfInBounds_toArray, List.set_cons_zero, List.set_cons_succ]
            refine wpAnyH_take (i := 9) (v := ?_) rfl (by kernel_rfl) (by kernel_rfl) (by kernel_rfl) (fun _ _ _ h => h) (Or.inl ⟨by rfl, ?_⟩) (by assumption) ?_
            rotate_left
            · intro w hSw
              (try dsimp only at hSw)
              go_simp
              first | done | with_reducible rfl
            try simp only [Act.put, List.setIfInBounds_toArray, List.set_cons_zero, List.set_cons_succ]
            refine wpAnyH_take (i := 10) (v := ?_) rfl (by kernel_rfl) (by kernel_rfl) (by kernel_rfl) (fun _ _ _ h => h) (Or.inl ⟨by rfl, ?_⟩) (by assumption) ?_
            rotate_left
            · intro w hSw
              (try dsimp only at hSw)
              go_simp
              first | done | with_reducible rfl
            try simp only [Act.put, List.setIfInBounds_toArray, List.set_cons_zero, List.set_cons_succ]
            refine wpAnyH_take (i := 11) (v := ?_) rfl (by kernel_rfl) (by kernel_rfl) (by kernel_rfl) (fun _ _ _ h => h) (Or.inl ⟨by rfl, ?_⟩) (by assumption) ?_
            rotate_left
            · intro w hSw
              (try dsimp only at hSw)
              go_simp
              first | done | with_reducible rfl
            try simp only [Act.put, List.setIfInBounds_toArray, List.set_cons_zero, List.set_cons_succ]
            refine wpAnyH_take (i := 14) (v := ?_) rfl (by kernel_rfl) (by kernel_rfl) (by kernel_rfl) (fun _ _ _ h => h) (Or.inl ⟨by rfl, ?_⟩) (by assumption) ?_
            rotate_left
            · intro w hSw
              (try dsimp only at hSw)
              go_simp
              first | done | with_reducible rfl
            try simp only [Act.put, List.setIfInBounds_toArray, List.set_cons_zero, List.set_cons_succ]
            refine wpAnyH_take (i := 15) (v := ?_) rfl (by kernel_rfl) (by kernel_rfl) (by kernel_rfl) (fun _ _ _ h => h) (Or.inl ⟨by rfl, ?_⟩) (by assumption) ?_
            rotate_left
            · intro w hSw
              (try dsimp only at hSw)
              go_simp
              first | done | with_reducible rfl
            try simp only [Act.put, List.setIfInBounds_toArray, List.set_cons_zero, List.set_cons_succ]
            refine wpAnyH_take (i := 16) (v := ?_) rfl (by kernel_rfl) (by kernel_rfl) (by kernel_rfl) (fun _ _ _ h => h) (Or.inl ⟨by rfl, ?_⟩) (by assumption) ?_
            rotate_left
            · intro w hSw
              (try dsimp only at hSw)
              go_simp
              first | done | with_reducible rfl
            try simp only [Act.put, List.setIfInBounds_toArray, List.set_cons_zero, List.set_cons_succ]
            refine wpAnyH_take (i := 17) (v := ?_) rfl (by kernel_rfl) (by kernel_rfl) (by kernel_rfl) (fun _ _ _ h => h) (Or.inl ⟨by rfl, ?_⟩) (by assumption) ?_
            rotate_left
            · intro w hSw
              (try dsimp only at hSw)
              go_simp
              first | done | with_reducible rfl
            try simp only [Act.put, List.setIfInBounds_toArray, List.set_cons_zero, List.set_cons_succ]
            refine wpAnyH_ready (rs := [12, 18]) (by kernel_rfl) (by simp) ?_
            refine AllReadyH.cons rfl (fun K hK => ?_) ?_
            · skip
              go_simp
              refine hK.out _ _ ?_ (fun hHeld => ?_)
              · (try dsimp only)
                first | done | go_keep | exact ⟨(cell_set_other _ hne1 _).trans u0, (cell_set_other _ hne2 _).trans y1', (cell_set_other _ hne2 _).trans y2'⟩
              clear hK K
              try simp only [Act.put, List.setIfInBounds_toArray, List.set_cons_zero, List.set_cons_succ]
              refine wpAnyH_ready (rs := [13, 18]) (by kernel_rfl) (by simp) ?_
              refine AllReadyH.cons rfl (fun K hK => ?_) ?_
              · skip
                (refine step_append_row _ (fun _ => (0, 0, 0)) (9, 9, 9) rfl _ (.tmp 63) 22 rfl 84 t0 _ 2 32 Tryz.underlying22 ht0 hz0 hz1 hz2 rfl (by decide) none 0 0 [] rfl (by exact RowOk.none_) y.aA m.length y.acap (attrCells m) rfl (by exact attrCells_len _) (by exact NA.out) (by exact NW.out _ (below_step HB2.out (below_drew (Below.refl _ _)))) (by exact attrCells_one _) (by unfold maxLen; omega) (by omega) ?_; intro A2 cp2 w2 c2 hrow2 hmv2; have hm02 : Mv (· = (9, 9, 9)) wo (fun _ => (0, 0, 0)) w2 c2 := (Mv.of_below (below_step HB2.out (below_drew (Below.refl _ _)))).trans hmv2; have hB2 := below_of_mv hm02; have x0 := ((bcell hB2).1 h.g 0 hgx).trans (((bcell HB2.out).1 h.g 0 hgx).symm.trans a0); have x4 := ((bcell hB2).1 gn (i * 11 + 4) hgl).trans (((bcell HB2.out).1 gn (i * 11 + 4) hgl).symm.trans a4); have y1 := LP1.out _ hB2; have y2 := LP2.out _ hB2; have hgl2 := Nat.lt_of_lt_of_le hgl hB2.size; have hgx2 := Nat.lt_of_lt_of_le hgx hB2.size; clear a0 a4 p1 p2)
                refine hK.out _ _ ?_ (fun hHeld => ?_)
                · (try dsimp only)
                  first | done | go_keep | exact ⟨(cell_set_other _ hne1 _).trans u0, (cell_set_other _ hne2 _).trans y1', (cell_set_other _ hne2 _).trans y2'⟩
                clear hK K
                try simp only [Act.put, List.setIfInBounds_toArray, List.set_cons_zero, List.set_cons_succ]
                refine wpAnyH_ready (rs := [18]) (by kernel_rfl) (by simp) ?_
                refine AllReadyH.cons rfl (fun K hK => ?_) AllReadyH.nil
                go_simp
                refine hK.out _ _ ?_ (fun hHeld => ?_)
                · (try dsimp only)
                  first | done | go_keep | exact ⟨(cell_set_other _ hne1 _).trans u0, (cell_set_other _ hne2 _).trans y1', (cell_set_other _ hne2 _).trans y2'⟩
                clear hK K
                try simp only [Act.put, List.setIfInBounds_toArray, List.set_cons_zero, List.set_cons_succ]
                refine wpAnyH_ready (rs := [19]) (by kernel_rfl) (by simp) ?_
                refine AllReadyH.cons rfl (fun K hK => ?_) AllReadyH.nil
                (refine step_append_row _ c2 (9, 9, 9) rfl (.tmp 64) (.tmp 69) 22 rfl 84 t0 _ 2 32 Tryz.underlying22 ht0 hz0 hz1 hz2 rfl (by decide) A2 m.length cp2 (attrCells m) (by simp [Act.eval, Act.put]) (by simpa using hrow2.kp (kp_below (below_alloc (Below.refl _ _) _))) _ 1 1 [.string p.1, .string p.2] (by simp [Act.eval, Act.put]; rfl) (by rfl) (by simp) (by exact (HB.at_ (by simp)).news) (by simp [Value.oneCell']) (by unfold maxLen; omega) (by omega) ?_; intro A3 cp3 w3 c3 hrow3 hmv3; have M3 : Mv (· = (9, 9, 9)) wo (fun _ => (0, 0, 0)) w3 c3 := hm02.trans ((Mv.of_below (below_alloc (Below.refl _ _) _)).trans hmv3); have hB3 := below_of_mv M3; have u0 : w3.cell? ⟨h.g, 0, none⟩ = some (.slice (some ⟨gn, 0, none⟩) X.cs.length X.ncap) := ((bcell hB3).1 h.g 0 hgx).trans (((bcell hB2).1 h.g 0 hgx).symm.trans x0); have u4 : w3.cell? ⟨gn, i * 11 + 4, none⟩ = some (.slice y.aA m.length y.acap) := ((bcell hB3).1 gn (i * 11 + 4) hgl).trans (((bcell hB2).1 gn (i * 11 + 4) hgl).symm.trans x4); have uf := HFX.out _ hB3; have ul := Nat.lt_of_lt_of_le hgl hB3.size; have ul2 := Nat.lt_of_lt_of_le hgx hB3.size; have y1' := LP1.out _ hB3; have y2' := LP2.out _ hB3; clear x0 x4 y1 y2 hB2)
                refine hK.out _ _ ?_ (fun hHeld => ?_)
                · (try dsimp only)
                  first | done | go_keep | exact ⟨(cell_set_other _ hne1 _).trans u0, (cell_set_other _ hne2 _).trans y1', (cell_set_other _ hne2 _).trans y2'⟩
                clear hK K
                try simp only [Act.put, List.setIfInBounds_toArray, List.set_cons_zero, List.set_cons_succ]
                refine wpAnyH_take (i := 20) (v := ?_) rfl (by kernel_rfl) (by kernel_rfl) (by kernel_rfl) (fun _ _ _ h => h) (Or.inl ⟨by rfl, ?_⟩) (by assumption) ?_
                rotate_left
                · intro w hSw
                  (try dsimp only at hSw)
                  go_simp
                  first | done | with_reducible rfl
                try simp only [Act.put, List.setIfInBounds_toArray, List.set_cons_zero, List.set_cons_succ]
                refine wpAnyH_take (i := 21) (v := ?_) rfl (by kernel_rfl) (by kernel_rfl) (by kernel_rfl) (fun _ _ _ h => h) (Or.inl ⟨by rfl, ?_⟩) (by assumption) ?_
                rotate_left
                · intro w hSw
                  (try dsimp only at hSw)
                  go_simp
                  first | done | with_reducible rfl
                try simp only [Act.put, List.setIfInBounds_toArray, List.set_cons_zero, List.set_cons_succ]
                refine wpAnyH_ready (rs := [22]) (by kernel_rfl) (by simp) ?_
                refine AllReadyH.cons rfl (fun K hK => ?_) AllReadyH.nil
                go_simp
                refine hK.out _ _ ?_ (fun hHeld => ?_)
                · (try dsimp only)
                  first | done | go_keep | exact ⟨(cell_set_other _ hne1 _).trans u0, (cell_set_other _ hne2 _).trans y1', (cell_set_other _ hne2 _).trans y2'⟩
                clear hK K
                try simp only [Act.put, List.setIfInBounds_toArray, List.set_cons_zero, List.set_cons_succ]
                refine wpAnyH_done (by kernel_rfl) ?_ _
                have RN := RowNew.of_row M3 hrow3 (Nat.le_refl _)
                obtain ⟨c4, RO, hc4⟩ := RN.own cr (h.sd, 5, i)
                have MB : Mv (· = (h.sd, 5, i)) wo cr w3 c4 := Mv.own_new HXR.out.1.gd (below_of_mv M3) (by
                  rcases hc4 with h1 | ⟨g, h1, h2, h3, cur, h4⟩
                  · exact .inl h1
                  · exact .inr ⟨g, h1, h2, h3, cur, _, h4⟩)
                have ec : attrCells m ++ [Value.string p.1, Value.string p.2] = attrCells (m ++ [p]) := by simp [attrCells]
                rw [ec, show m.length + 1 = (m ++ [p]).length by simp] at RO
                obtain ⟨K1, K2⟩ := sAttrs HXR.out.1 HXR.out.2.1 HXR.out.2.2.1 RO MB
                rw [show (m ++ [p]).length = m.length + 1 by simp] at K1 K2
                rw [← GROW.out] at K1
                have FIN := Lib.hid (And.intro K1 K2)
                clear K1 K2 MB RO RN
                go_wp2_with fail
                go_roundw
                case rel => exact ⟨k + 1, by omega, by rfl, c4, ⟨_, FIN.out.1⟩, MR.out.trans FIN.out.2⟩
                case measure => simp [intOf]; omega
              refine AllReadyH.cons rfl (fun K hK => ?_) AllReadyH.nil
              go_simp
              refine hK.out _ _ ?_ (fun hHeld => ?_)
              · (try dsimp only)
                first | done | go_keep | exact ⟨(cell_set_other _ hne1 _).trans u0, (cell_set_other _ hne2 _).trans y1', (cell_set_other _ hne2 _).trans y2'⟩
              clear hK K
              try simp only [Act.put, List.setIfInBounds_toArray, List.set_cons_zero, List.set_cons_succ]
              refine wpAnyH_ready (rs := [13]) (by kernel_rfl) (by simp) ?_
              refine AllReadyH.cons rfl (fun K hK => ?_) AllReadyH.nil
              (refine step_append_row _ (fun _ => (0, 0, 0)) (9, 9, 9) rfl _ (.tmp 63) 22 rfl 84 t0 _ 2 32 Tryz.underlying22 ht0 hz0 hz1 hz2 rfl (by decide) none 0 0 [] rfl (by exact RowOk.none_) y.aA m.length y.acap (attrCells m) rfl (by exact attrCells_len _) (by exact NA.out) (by exact NW.out _ (below_step HB2.out (below_drew (below_alloc (Below.refl _ _) _)))) (by exact attrCells_one _) (by unfold maxLen; omega) (by omega) ?_; intro A2 cp2 w2 c2 hrow2 hmv2; have hm02 : Mv (· = (9, 9, 9)) wo (fun _ => (0, 0, 0)) w2 c2 := (Mv.of_below (below_step HB2.out (below_drew (below_alloc (Below.refl _ _) _)))).trans hmv2; have hbox : HB w2 wr.heap.size 84 [.string p.1, .string p.2] := HB.mvk ((HB.new wr 84 [.string p.1, .string p.2]).drew) hmv2 (by simp); have hB2 := below_of_mv hm02; have x0 := ((bcell hB2).1 h.g 0 hgx).trans (((bcell HB2.out).1 h.g 0 hgx).symm.trans a0); have x4 := ((bcell hB2).1 gn (i * 11 + 4) hgl).trans (((bcell HB2.out).1 gn (i * 11 + 4) hgl).symm.trans a4); have y1 := LP1.out _ hB2; have y2 := LP2.out _ hB2; have hgl2 := Nat.lt_of_lt_of_le hgl hB2.size; have hgx2 := Nat.lt_of_lt_of_le hgx hB2.size; clear a0 a4 p1 p2)
              refine hK.out _ _ ?_ (fun hHeld => ?_)
              · (try dsimp only)
                first | done | go_keep | exact ⟨(cell_set_other _ hne1 _).trans u0, (cell_set_other _ hne2 _).trans y1', (cell_set_other _ hne2 _).trans y2'⟩
              clear hK K
              try simp only [Act.put, List.setIfInBounds_toArray, List.set_cons_zero, List.set_cons_succ]
              refine wpAnyH_ready (rs := [19]) (by kernel_rfl) (by simp) ?_
              refine AllReadyH.cons rfl (fun K hK => ?_) AllReadyH.nil
              (refine step_append_row _ c2 (9, 9, 9) rfl (.tmp 64) (.tmp 69) 22 rfl 84 t0 _ 2 32 Tryz.underlying22 ht0 hz0 hz1 hz2 rfl (by decide) A2 m.length cp2 (attrCells m) (by simp [Act.eval, Act.put]) (by simpa using hrow2) _ 1 1 [.string p.1, .string p.2] (by simp [Act.eval, Act.put]; rfl) (by rfl) (by simp) (by exact hbox.news) (by simp [Value.oneCell']) (by unfold maxLen; omega) (by omega) ?_; intro A3 cp3 w3 c3 hrow3 hmv3; have M3 : Mv (· = (9, 9, 9)) wo (fun _ => (0, 0, 0)) w3 c3 := hm02.trans hmv3; have hB3 := below_of_mv M3; have u0 : w3.cell? ⟨h.g, 0, none⟩ = some (.slice (some ⟨gn, 0, none⟩) X.cs.length X.ncap) := ((bcell hB3).1 h.g 0 hgx).trans (((bcell hB2).1 h.g 0 hgx).symm.trans x0); have u4 : w3.cell? ⟨gn, i * 11 + 4, none⟩ = some (.slice y.aA m.length y.acap) := ((bcell hB3).1 gn (i * 11 + 4) hgl).trans (((bcell hB2).1 gn (i * 11 + 4) hgl).symm.trans x4); have uf := HFX.out _ hB3; have ul := Nat.lt_of_lt_of_le hgl hB3.size; have ul2 := Nat.lt_of_lt_of_le hgx hB3.size; have y1' := LP1.out _ hB3; have y2' := LP2.out _ hB3; clear x0 x4 y1 y2 hB2)
              refine hK.out _ _ ?_ (fun hHeld => ?_)
              · (try dsimp only)
                first | done | go_keep | exact ⟨(cell_set_other _ hne1 _).trans u0, (cell_set_other _ hne2 _).trans y1', (cell_set_other _ hne2 _).trans y2'⟩
              clear hK K
              try simp only [Act.put, List.setIfInBounds_toArray, List.set_cons_zero, List.set_cons_succ]
              refine wpAnyH_take (i := 20) (v := ?_) rfl (by kernel_rfl) (by kernel_rfl) (by kernel_rfl) (fun _ _ _ h => h) (Or.inl ⟨by rfl, ?_⟩) (by assumption) ?_
              rotate_left
              · intro w hSw
                (try dsimp only at hSw)
                go_simp
                first | done | with_reducible rfl
              try simp only [Act.put, List.setIfInBounds_toArray, List.set_cons_zero, List.set_cons_succ]
              refine wpAnyH_take (i := 21) (v := ?_) rfl (by kernel_rfl) (by kernel_rfl) (by kernel_rfl) (fun _ _ _ h => h) (Or.inl ⟨by rfl, ?_⟩) (by assumption) ?_
              rotate_left
              · intro w hSw
                (try dsimp only at hSw)
                go_simp
                first | done | with_reducible rfl
              try simp only [Act.put, List.setIfInBounds_toArray, List.set_cons_zero, List.set_cons_succ]
              refine wpAnyH_ready (rs := [22]) (by kernel_rfl) (by simp) ?_
              refine AllReadyH.cons rfl (fun K hK => ?_) AllReadyH.nil
              go_simp
              refine hK.out _ _ ?_ (fun hHeld => ?_)
              · (try dsimp only)
                first | done | go_keep | exact ⟨(cell_set_other _ hne1 _).trans u0, (cell_set_other _ hne2 _).trans y1', (cell_set_other _ hne2 _).trans y2'⟩
              clear hK K
              try simp only [Act.put, List.setIfInBounds_toArray, List.set_cons_zero, List.set_cons_succ]
              refine wpAnyH_done (by kernel_rfl) ?_ _
              have RN := RowNew.of_row M3 hrow3 (Nat.le_refl _)
              obtain ⟨c4, RO, hc4⟩ := RN.own cr (h.sd, 5, i)
              have MB : Mv (· = (h.sd, 5, i)) wo cr w3 c4 := Mv.own_new HXR.out.1.gd (below_of_mv M3) (by
                rcases hc4 with h1 | ⟨g, h1, h2, h3, cur, h4⟩
                · exact .inl h1
                · exact .inr ⟨g, h1, h2, h3, cur, _, h4⟩)
              have ec : attrCells m ++ [Value.string p.1, Value.string p.2] = attrCells (m ++ [p]) := by simp [attrCells]
              rw [ec, show m.length + 1 = (m ++ [p]).length by simp] at RO
              obtain ⟨K1, K2⟩ := sAttrs HXR.out.1 HXR.out.2.1 HXR.out.2.2.1 RO MB
              rw [show (m ++ [p]).length = m.length + 1 by simp] at K1 K2
              rw [← GROW.out] at K1
              have FIN := Lib.hid (And.intro K1 K2)
              clear K1 K2 MB RO RN
              go_wp2_with fail
              go_roundw
              case rel => exact ⟨k + 1, by omega, by rfl, c4, ⟨_, FIN.out.1⟩, MR.out.trans FIN.out.2⟩
              case measure => simp [intOf]; omega
            refine AllReadyH.cons rfl (fun K hK => ?_) AllReadyH.nil
            go_simp
            refine hK.out _ _ ?_ (fun hHeld => ?_)
            · (try dsimp only)
              first | done | go_keep | exact ⟨(cell_set_other _ hne1 _).trans u0, (cell_set_other _ hne2 _).trans y1', (cell_set_other _ hne2 _).trans y2'⟩
            clear hK K
            try simp only [Act.put, List.setIfInBounds_toArray, List.set_cons_zero, List.set_cons_succ]
            refine wpAnyH_ready (rs := [12]) (by kernel_rfl) (by simp) ?_
            refine AllReadyH.cons rfl (fun K hK => ?_) AllReadyH.nil
            go_simp
            refine hK.out _ _ ?_ (fun hHeld => ?_)
            · (try dsimp only)
              first | done | go_keep | exact ⟨(cell_set_other _ hne1 _).trans u0, (cell_set_other _ hne2 _).trans y1', (cell_set_other _ hne2 _).trans y2'⟩
            clear hK K
            try simp only [Act.put, List.setIfInBounds_toArray, List.set_cons_zero, List.set_cons_succ]
            refine wpAnyH_ready (rs := [13]) (by kernel_rfl) (by simp) ?_
            refine AllReadyH.cons rfl (fun K hK => ?_) AllReadyH.nil
            (refine step_append_row _ (fun _ => (0, 0, 0)) (9, 9, 9) rfl _ (.tmp 63) 22 rfl 84 t0 _ 2 32 Tryz.underlying22 ht0 hz0 hz1 hz2 rfl (by decide) none 0 0 [] rfl (by exact RowOk.none_) y.aA m.length y.acap (attrCells m) rfl (by exact attrCells_len _) (by exact NA.out) (by exact NW.out _ (below_step HB2.out (below_drew (below_alloc (Below.refl _ _) _)))) (by exact attrCells_one _) (by unfold maxLen; omega) (by omega) ?_; intro A2 cp2 w2 c2 hrow2 hmv2; have hm02 : Mv (· = (9, 9, 9)) wo (fun _ => (0, 0, 0)) w2 c2 := (Mv.of_below (below_step HB2.out (below_drew (below_alloc (Below.refl _ _) _)))).trans hmv2; have hbox : HB w2 wr.heap.size 84 [.string p.1, .string p.2] := HB.mvk ((HB.new wr 84 [.string p.1, .string p.2]).drew) hmv2 (by simp); have hB2 := below_of_mv hm02; have x0 := ((bcell hB2).1 h.g 0 hgx).trans (((bcell HB2.out).1 h.g 0 hgx).symm.trans a0); have x4 := ((bcell hB2).1 gn (i * 11 + 4) hgl).trans (((bcell HB2.out).1 gn (i * 11 + 4) hgl).symm.trans a4); have y1 := LP1.out _ hB2; have y2 := LP2.out _ hB2; have hgl2 := Nat.lt_of_lt_of_le hgl hB2.size; have hgx2 := Nat.lt_of_lt_of_le hgx hB2.size; clear a0 a4 p1 p2)
            refine hK.out _ _ ?_ (fun hHeld => ?_)
            · (try dsimp only)
              first | done | go_keep | exact ⟨(cell_set_other _ hne1 _).trans u0, (cell_set_other _ hne2 _).trans y1', (cell_set_other _ hne2 _).trans y2'⟩
            clear hK K
            try simp only [Act.put, List.setIfInBounds_toArray, List.set_cons_zero, List.set_cons_succ]
            refine wpAnyH_ready (rs := [19]) (by kernel_rfl) (by simp) ?_
            refine AllReadyH.cons rfl (fun K hK => ?_) AllReadyH.nil
            (refine step_append_row _ c2 (9, 9, 9) rfl (.tmp 64) (.tmp 69) 22 rfl 84 t0 _ 2 32 Tryz.underlying22 ht0 hz0 hz1 hz2 rfl (by decide) A2 m.length cp2 (attrCells m) (by simp [Act.eval, Act.put]) (by simpa using hrow2) _ 1 1 [.string p.1, .string p.2] (by simp [Act.eval, Act.put]; rfl) (by rfl) (by simp) (by exact hbox.news) (by simp [Value.oneCell']) (by unfold maxLen; omega) (by omega) ?_; intro A3 cp3 w3 c3 hrow3 hmv3; have M3 : Mv (· = (9, 9, 9)) wo (fun _ => (0, 0, 0)) w3 c3 := hm02.trans hmv3; have hB3 := below_of_mv M3; have u0 : w3.cell? ⟨h.g, 0, none⟩ = some (.slice (some ⟨gn, 0, none⟩) X.cs.length X.ncap) := ((bcell hB3).1 h.g 0 hgx).trans (((bcell hB2).1 h.g 0 hgx).symm.trans x0); have u4 : w3.cell? ⟨gn, i * 11 + 4, none⟩ = some (.slice y.aA m.length y.acap) := ((bcell hB3).1 gn (i * 11 + 4) hgl).trans (((bcell hB2).1 gn (i * 11 + 4) hgl).symm.trans x4); have uf := HFX.out _ hB3; have ul := Nat.lt_of_lt_of_le hgl hB3.size; have ul2 := Nat.lt_of_lt_of_le hgx hB3.size; have y1' := LP1.out _ hB3; have y2' := LP2.out _ hB3; clear x0 x4 y1 y2 hB2)
            refine hK.out _ _ ?_ (fun hHeld => ?_)
            · (try dsimp only)
              first | done | go_keep | exact ⟨(cell_set_other _ hne1 _).trans u0, (cell_set_other _ hne2 _).trans y1', (cell_set_other _ hne2 _).trans y2'⟩
            clear hK K
            try simp only [Act.put, List.setIfInBounds_toArray, List.set_cons_zero, List.set_cons_succ]
            refine wpAnyH_take (i := 20) (v := ?_) rfl (by kernel_rfl) (by kernel_rfl) (by kernel_rfl) (fun _ _ _ h => h) (Or.inl ⟨by rfl, ?_⟩) (by assumption) ?_
            rotate_left
            · intro w hSw
              (try dsimp only at hSw)
              go_simp
              first | done | with_reducible rfl
            try simp only [Act.put, List.setIfInBounds_toArray, List.set_cons_zero, List.set_cons_succ]
            refine wpAnyH_take (i := 21) (v := ?_) rfl (by kernel_rfl) (by kernel_rfl) (by kernel_rfl) (fun _ _ _ h => h) (Or.inl ⟨by rfl, ?_⟩) (by assumption) ?_
            rotate_left
            · intro w hSw
              (try dsimp only at hSw)
              go_simp
              first | done | with_reducible rfl
            try simp only [Act.put, List.setIfInBounds_toArray, List.set_cons_zero, List.set_cons_succ]
            refine wpAnyH_ready (rs := [22]) (by kernel_rfl) (by simp) ?_
            refine AllReadyH.cons rfl (fun K hK => ?_) AllReadyH.nil
            go_simp
            refine hK.out _ _ ?_ (fun hHeld => ?_)
            · (try dsimp only)
              first | done | go_keep | exact ⟨(cell_set_other _ hne1 _).trans u0, (cell_set_other _ hne2 _).trans y1', (cell_set_other _ hne2 _).trans y2'⟩
            clear hK K
            try simp only [Act.put, List.setIfInBounds_toArray, List.set_cons_zero, List.set_cons_succ]
            refine wpAnyH_done (by kernel_rfl) ?_ _
            have RN := RowNew.of_row M3 hrow3 (Nat.le_refl _)
            obtain ⟨c4, RO, hc4⟩ := RN.own cr (h.sd, 5, i)
            have MB : Mv (· = (h.sd, 5, i)) wo cr w3 c4 := Mv.own_new HXR.out.1.gd (below_of_mv M3) (by
              rcases hc4 with h1 | ⟨g, h1, h2, h3, cur, h4⟩
              · exact .inl h1
              · exact .inr ⟨g, h1, h2, h3, cur, _, h4⟩)
            have ec : attrCells m ++ [Value.string p.1, Value.string p.2] = attrCells (m ++ [p]) := by simp [attrCells]
            rw [ec, show m.length + 1 = (m ++ [p]).length by simp] at RO
            obtain ⟨K1, K2⟩ := sAttrs HXR.out.1 HXR.out.2.1 HXR.out.2.2.1 RO MB
            rw [show (m ++ [p]).length = m.length + 1 by simp] at K1 K2
            rw [← GROW.out] at K1
            have FIN := Lib.hid (And.intro K1 K2)
            clear K1 K2 MB RO RN
            go_wp2_with fail
            go_roundw
            case rel => exact ⟨k + 1, by omega, by rfl, c4, ⟨_, FIN.out.1⟩, MR.out.trans FIN.out.2⟩
            case measure => simp [intOf]; omega
          · rw [hasN_all (Nat.le_refl _)] at hq
            have SAME : Hid (moreM st i n (l.take (k + 1)) = moreM st i n (l.take k)) := Lib.hid (by
              unfold moreM
              rw [MT.out, hM]
              simp only [hq, if_true])
            clear hq
            go_wp2_with fail
            go_roundw
            case rel => exact ⟨k + 1, by omega, by rfl, cr, by rw [SAME.out]; exact (show SRep wo cr h (moreM st i n (l.take k)) from ⟨X, HXR.out.1⟩).loc HB2.out, MR.out.trans (Mv.of_below HB2.out)⟩
            case measure => simp [intOf]; omega
    · obtain rfl : k = l.length := by omega
      rw [List.take_length] at Hr
      have HM := Lib.hid (And.intro Hr mr)
      have g2 : ¬ (l.length : Int) < (l.length : Int) := by omega
      clear Hr mr
      go_wp2_with fail
      go_end0
      exact ⟨rfl, cr, HM.out.1, HM.out.2⟩
end Go.Proofs.YtjmlkmlbhfkhbaaGreatDoor
