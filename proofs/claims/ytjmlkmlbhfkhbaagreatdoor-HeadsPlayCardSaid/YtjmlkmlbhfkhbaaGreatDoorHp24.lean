/-
  The reference's Mark (182), At (186), Close (150).
  The reference's Close (150).
-/
import Derived.Test.YtjmlkmlbhfkhbaaGreatDoorHp23
import Derived.Test.YtjmlkmlbhfkhbaaGreatDoorHp19
set_option linter.unusedSimpArgs false
set_option linter.unusedVariables false
namespace Go.Proofs.YtjmlkmlbhfkhbaaGreatDoor
open Go Go.RowKit

theorem info112 : (Tryz.prog.info? 112).map (fun i => (i.zero, i.size, i.bytes)) = some (some (.agg #[.bool false, .int .i64 0]), 2, 16) := by kernel_rfl

/-- Another formatting list. -/
theorem sList {w w2 : World} {c c2 : Col} {h : Sd} {x : SSh} {st : St} (H : SRepX w c h x st) {A : Option Addr} {cap : Nat} {l : List Int}
    (hrow : RowOk w2 c2 (h.sd, 9, 0) 112 2 A l.length cap (entCells l)) (hm : Mv (· = (h.sd, 9, 0)) w c w2 c2) :
    SRepX (w2.setCell ⟨h.g, 2, none⟩ (.slice A l.length cap)) c2 h { x with lA := A, lcap := cap } { st with fmt := l } ∧ Mv (PrS h) w c (w2.setCell ⟨h.g, 2, none⟩ (.slice A l.length cap)) c2 := by
  obtain ⟨r1, r3, r4, r5, r7, -, r10⟩ := H.rest hm
  have hb := r1 (by simp)
  have k2 : ∀ q i', q ≠ 1 → Kp (h.sd, q, i') w2 c2 (w2.setCell ⟨h.g, 2, none⟩ (.slice A l.length cap)) c2 := fun q i' hp => kp_setCell (by rw [hb.1]; simp; omega) _
  have s2 : Mv (PrS h) w2 c2 (w2.setCell ⟨h.g, 2, none⟩ (.slice A l.length cap)) c2 := Mv.setCell (show (c2 h.g).1 = h.sd by rw [hb.1]) _
  have sm := (hm.mono (T := PrS h) fun k e => by rw [e]; rfl).trans s2
  exact ⟨⟨sm.gd H.gd, H.sd, hb.set_ 2 (.slice A l.length cap), (r3 (by simp)).kp (k2 _ _ (by decide)), fun i y hy => ⟨(r4 i y hy (by simp)).kp (k2 _ _ (by decide)), (r5 i y hy (by simp)).kp (k2 _ _ (by decide))⟩, H.ns, (r7 (by simp)).kp (k2 _ _ (by decide)), hrow.kp (k2 _ _ (by decide)), (r10 (by simp)).kp (k2 _ _ (by decide)), H.ask⟩, sm⟩
/-- Other modes. -/
theorem sModes {w w2 : World} {c c2 : Col} {h : Sd} {x : SSh} {st : St} (H : SRepX w c h x st) {A : Option Addr} {cap : Nat} {l : List Int}
    (hrow : RowOk w2 c2 (h.sd, 10, 0) 3 1 A l.length cap (intCells l)) (hm : Mv (· = (h.sd, 10, 0)) w c w2 c2) :
    SRepX (w2.setCell ⟨h.g, 5, none⟩ (.slice A l.length cap)) c2 h { x with mA := A, mcap := cap } { st with modes := l } ∧ Mv (PrS h) w c (w2.setCell ⟨h.g, 5, none⟩ (.slice A l.length cap)) c2 := by
  obtain ⟨r1, r3, r4, r5, r7, r9, -⟩ := H.rest hm
  have hb := r1 (by simp)
  have k2 : ∀ q i', q ≠ 1 → Kp (h.sd, q, i') w2 c2 (w2.setCell ⟨h.g, 5, none⟩ (.slice A l.length cap)) c2 := fun q i' hp => kp_setCell (by rw [hb.1]; simp; omega) _
  have s2 : Mv (PrS h) w2 c2 (w2.setCell ⟨h.g, 5, none⟩ (.slice A l.length cap)) c2 := Mv.setCell (show (c2 h.g).1 = h.sd by rw [hb.1]) _
  have sm := (hm.mono (T := PrS h) fun k e => by rw [e]; rfl).trans s2
  exact ⟨⟨sm.gd H.gd, H.sd, hb.set_ 5 (.slice A l.length cap), (r3 (by simp)).kp (k2 _ _ (by decide)), fun i y hy => ⟨(r4 i y hy (by simp)).kp (k2 _ _ (by decide)), (r5 i y hy (by simp)).kp (k2 _ _ (by decide))⟩, H.ns, (r7 (by simp)).kp (k2 _ _ (by decide)), (r9 (by simp)).kp (k2 _ _ (by decide)), hrow.kp (k2 _ _ (by decide)), H.ask⟩, sm⟩

set_option maxRecDepth 100000 in
set_option maxHeartbeats 4000000 in
theorem rMark {w : World} {c : Col} {h : Sd} {st : St} (H : SRep w c h st) (hl : st.fmt.length < 64) :
    Calls Tryz.prog 182 #[.pointer (some ⟨h.g, 0, none⟩)] w (OkS h { st with fmt := st.fmt ++ [-1] } (.tuple #[]) w c) := by
  obtain ⟨X, HX⟩ := H
  obtain ⟨-, -, b2, -⟩ := HX.bc
  have HH := Lib.hid HX
  obtain ⟨j0, hj0, hy0, hy1, hy2⟩ := info_parts info112
  have h1 : ¬ (64 : Int) ≤ (st.fmt.length : Int) := by omega
  clear HX
  go_enter Tryz.func182, Tryz.ntmps182
  go_wp2_with (at_builtin; refine wpList_append_row _ c (h.sd, 9, 0) rfl _ _ 77 rfl 112 j0 _ 2 16 Tryz.underlying77 hj0 hy0 hy1 hy2 rfl (by decide) X.lA st.fmt.length X.lcap (entCells st.fmt) rfl (by exact HH.out.lst.kp (kp_below (below_alloc (Below.refl _ _) _))) _ 1 1 [.bool true, .int .i64 (-1)] rfl (by rfl) (by simp) (by exact (HB.at_ (by simp)).news) (by simp [Value.oneCell']) (by unfold maxLen; omega) (by omega) ?_; intro A4 cp4 w4 c4 hrow4 hmv4; have m04 : Mv (· = (h.sd, 9, 0)) w c w4 c4 := (Mv.of_below (below_alloc (Below.refl _ _) _)).trans hmv4; have hb4 := HH.out.hb.kp (m04.kp (k := (h.sd, 1, 0)) (by simp)); have z1 : w4.cell? ⟨h.g, 2, none⟩ = some (.slice X.lA st.fmt.length X.lcap) := hb4.cell 2; have z2 := hb4.frozen 2; have z3 := hb4.lt; clear b2)
  have hrow5 : RowOk w4 c4 (h.sd, 9, 0) 112 2 A4 (st.fmt ++ [-1]).length cp4 (entCells (st.fmt ++ [-1])) := by
    simpa [entCells] using hrow4
  obtain ⟨S1, S2⟩ := sList HH.out hrow5 m04
  rw [show (st.fmt ++ [(-1 : Int)]).length = st.fmt.length + 1 by simp] at S1 S2
  have FIN := Lib.hid (And.intro S1 S2)
  go_end0
  exact ⟨rfl, c4, ⟨_, FIN.out.1⟩, FIN.out.2⟩

set_option maxHeartbeats 1000000 in
theorem rAt {w : World} {c : Col} {h : Sd} {st : St} (H : SRep w c h st) (hl : st.stk.length ≤ 1000000) (i : Int) :
    Calls Tryz.prog 186 #[.pointer (some ⟨h.g, 0, none⟩), .int .i64 i] w fun e w' => e = .returned (.int .i64 (ixFrom st.stk i st.stk.length)) ∧ w = w' := by
  obtain ⟨X, HX⟩ := H
  have b1 := HX.bc.2.1
  have RW := Lib.hid HX.opn
  clear HX
  go_enter Tryz.func186, Tryz.ntmps186
  go_wp2_with fail
  go_loop [5, 6] (fun a t => ∃ k : Nat, k ≤ st.stk.length ∧ t = .int .i64 k ∧ a = .int .i64 (ixFrom st.stk i k)) (fun _ t => st.stk.length - (intOf t).toNat)
  case atStart => exact ⟨0, Nat.zero_le _, rfl, rfl⟩
  case round =>
    obtain ⟨k, hk, rfl, rfl⟩ := hrel
    by_cases hlt : k < st.stk.length
    · have g2 : (k : Int) < (st.stk.length : Int) := by omega
      have g3 : (0 : Int) ≤ (k : Int) := by omega
      obtain ⟨o, ho⟩ : ∃ o, st.stk[k]? = some o := ⟨_, List.getElem?_eq_getElem hlt⟩
      obtain ⟨g, hA, -, -, hc, -⟩ := RW.out.at_ (by omega)
      have c0 := hc k (.int .i64 o.node) (by unfold intCells opens; simp [ho])
      have hst : ixFrom st.stk i (k + 1) = if o.node = i then (k : Int) else ixFrom st.stk i k := by rw [ixFrom, ho]
      have HST := Lib.hid hst
      have hw : IntKind.i64.wrap ((k : Int) + 1) = (k : Int) + 1 := by have := wrap_small (L := k + 1) (by omega); rwa [show (((k + 1 : Nat) : Int)) = (k : Int) + 1 by omega] at this
      rw [hA] at b1
      clear ho hc hA hst
      cases hq : (o.node == i)
      · have E : Hid (ixFrom st.stk i (k + 1) = ixFrom st.stk i k) := Lib.hid (HST.out.trans (if_neg (fun e => by rw [e] at hq; simp at hq)))
        clear HST
        go_wp2_with fail
        go_round
        case rel => exact ⟨k + 1, by omega, by rfl, by rw [E.out]⟩
        case measure => simp [intOf]; omega
      · have E : Hid (ixFrom st.stk i (k + 1) = k) := Lib.hid (HST.out.trans (if_pos (by simpa using hq)))
        clear HST
        go_wp2_with fail
        go_round
        case rel => exact ⟨k + 1, by omega, by rfl, by rw [E.out]⟩
        case measure => simp [intOf]; omega
    · obtain rfl : k = st.stk.length := by omega
      have g2 : ¬ (st.stk.length : Int) < (st.stk.length : Int) := by omega
      go_wp2_with fail
      go_ret
      exact ⟨rfl, rfl⟩
end Go.Proofs.YtjmlkmlbhfkhbaaGreatDoor
namespace Go.Proofs.YtjmlkmlbhfkhbaaGreatDoor
open Go Go.RowKit

theorem opens_len (l : List OpE) : (intCells (opens l)).length = l.length := by simp [intCells, opens]

set_option maxRecDepth 100000 in
set_option maxHeartbeats 4000000 in
theorem rClose {w : World} {c : Col} {h : Sd} {st : St} (H : SRep w c h st) (hl : st.stk.length ≤ 1000) (i : Int) (k : Nat) (hk : ixFrom st.stk i st.stk.length = k) :
    Calls Tryz.prog 150 #[.pointer (some ⟨h.g, 0, none⟩), .int .i64 i] w (OkS h { st with stk := st.stk.eraseIdx k } (.tuple #[]) w c) := by
  have AT := Lib.hid (rAt H (by omega) i)
  rw [hk] at AT
  have hkl : k < st.stk.length := by have := (ixFrom_lt st.stk i st.stk.length).1; omega
  obtain ⟨X, HX⟩ := H
  have b1 := HX.bc.2.1
  have f1 := HX.hb.frozen 1
  have hlb := HX.hb.lt
  have hle := HX.opn.le
  have hmx := HX.opn.capMax
  unfold maxLen at hmx
  obtain ⟨go, hA, -, hgo, hcell, hfr⟩ := HX.opn.at_ (by omega)
  obtain ⟨j0, hj0, hy0, hy1, hy2⟩ := info_parts info3
  have HH := Lib.hid HX
  have k0 : (0 : Int) ≤ (k : Int) := by omega
  have k1 : (k : Int) ≤ (X.ocap : Int) := by omega
  have k2 : k ≤ X.ocap := by omega
  have k3 : (0 : Int) ≤ (k : Int) + 1 := by omega
  have k4 : (k : Int) + 1 ≤ (st.stk.length : Int) := by omega
  have k5 : (st.stk.length : Int) ≤ (X.ocap : Int) := by omega
  have hw : IntKind.i64.wrap ((k : Int) + 1) = (k : Int) + 1 := by have := wrap_small (L := k + 1) (by omega); rwa [show (((k + 1 : Nat) : Int)) = (k : Int) + 1 by omega] at this
  have HC := Lib.hid hcell
  have HA := Lib.hid hA
  rw [hA] at b1
  have CL1 : Hid ((intCells (opens (st.stk.take k))).length = k * 1) := Lib.hid (by rw [opens_len, List.length_take]; omega)
  have N1 : Hid (∀ ad, some (⟨go, 0, none⟩ : Addr) = some ad → ∀ j u, (intCells (opens (st.stk.take k)))[j]? = some u → w.drew.cell? (ad.add j) = some u) := Lib.hid (by
    rintro ad h j u hu
    obtain rfl := Option.some.inj h
    rw [Addr.add_lit]
    show w.cell? _ = _
    rw [show 0 + j = j by omega]
    refine hcell j u ?_
    unfold intCells opens at *
    rw [List.map_take, List.map_take] at hu
    have hj : j < k := by
      have := (List.getElem?_eq_some_iff.1 hu).1
      rw [List.length_take] at this; omega
    rwa [List.getElem?_take_of_lt hj] at hu)
  obtain ⟨AA, hAd, hAA⟩ : ∃ AA : Addr, (if X.ocap = k + 1 then (some ⟨go, 0, none⟩ : Option Addr) else some ⟨go, k + 1, none⟩) = some AA ∧ Hid (X.ocap ≠ k + 1 → AA = ⟨go, k + 1, none⟩) := by
    by_cases h : X.ocap = k + 1
    · exact ⟨_, if_pos h, Lib.hid fun hh => absurd h hh⟩
    · exact ⟨_, if_neg h, Lib.hid fun _ => rfl⟩
  have CL2 : Hid ((intCells (opens (st.stk.drop (k + 1)))).length = (st.stk.length - (k + 1)) * 1) := Lib.hid (by rw [opens_len, List.length_drop]; omega)
  have N2 : Hid (∀ W, Below w.heap.size w W → ∀ ad, some AA = some ad → ∀ j u, (intCells (opens (st.stk.drop (k + 1))))[j]? = some u → W.cell? (ad.add j) = some u) := Lib.hid (by
    rintro W hW ad h j u hu
    obtain rfl := Option.some.inj h
    unfold intCells opens at *
    rw [List.map_drop, List.map_drop, List.getElem?_drop] at hu
    have hne : X.ocap ≠ k + 1 := by
      have := (List.getElem?_eq_some_iff.1 hu).1
      rw [List.length_map, List.length_map] at this; omega
    rw [hAA.out hne, Addr.add_lit]
    exact ((bcell hW).1 go _ hgo).trans (hcell _ u hu))
  clear HX hcell hfr hA hk
  go_enter Tryz.func150, Tryz.ntmps150
  go_wp2_with fail
  refine AT.out.mono ?_
  rintro e w1 ⟨rfl, rfl⟩
  go_wp2_with fail
  go_region_law (first | (refine step_append_row _ (fun _ => (0, 0, 0)) (9, 9, 9) rfl _ (.tmp 16) 31 rfl 3 j0 _ 1 8 Tryz.underlying31 hj0 hy0 hy1 hy2 rfl (by decide) none 0 0 [] rfl (by exact RowOk.none_) (some ⟨go, 0, none⟩) k X.ocap (intCells (opens (st.stk.take k))) rfl (by exact CL1.out) (by simp) (by exact N1.out) (by simp [intCells, Value.oneCell']) (by unfold maxLen; omega) (by omega) ?_; intro A2 cp2 w2 c2 hrow2 hmv2; have hm02 : Mv (· = (9, 9, 9)) w (fun _ => (0, 0, 0)) w2 c2 := (Mv.refl (· = (9, 9, 9)) w (fun _ => (0, 0, 0))).drew.trans hmv2; have hB2 := below_of_mv hm02; have z1 : w2.cell? ⟨h.g, 1, none⟩ = some (.slice (some ⟨go, 0, none⟩) st.stk.length X.ocap) := ((bcell hB2).1 h.g 1 hlb).trans b1) | (refine step_append_row _ c2 (9, 9, 9) rfl (.tmp 17) (.tmp 24) 31 rfl 3 j0 _ 1 8 Tryz.underlying31 hj0 hy0 hy1 hy2 rfl (by decide) A2 k cp2 (intCells (opens (st.stk.take k))) (by simp [Act.eval, Act.put]) (by simpa using hrow2) (some AA) (st.stk.length - (k + 1)) (X.ocap - (k + 1)) (intCells (opens (st.stk.drop (k + 1)))) (by simp [Act.eval, Act.put]) (by exact CL2.out) (by simp) (by exact N2.out _ hB2) (by simp [intCells, Value.oneCell']) (by unfold maxLen; omega) (by omega) ?_; intro A3 cp3 w3 c3 hrow3 hmv3; have M3 := hm02.trans hmv3; have hB3 := below_of_mv M3; have z2 : w3.cell? ⟨h.g, 1, none⟩ = some (.slice (some ⟨go, 0, none⟩) st.stk.length X.ocap) := ((bcell hB3).1 h.g 1 hlb).trans b1; have z3 : w3.frozen? ⟨h.g, 1, none⟩ = false := ((bcell hB3).2 h.g 1 hlb).trans f1; have z4 : h.g < w3.heap.size := Nat.lt_of_lt_of_le hlb hB3.size; clear z1 hB2))
  all_goals
    have RN := RowNew.of_row M3 hrow3 (Nat.le_refl _)
    obtain ⟨c4, RO, hc4⟩ := RN.own c (h.sd, 7, 0)
    have MB : Mv (· = (h.sd, 7, 0)) w c w3 c4 := Mv.own_new HH.out.gd (below_of_mv M3) (by
      rcases hc4 with h1 | ⟨g, h1, h2, h3, cur, h4⟩
      · exact .inl h1
      · exact .inr ⟨g, h1, h2, h3, cur, _, h4⟩)
    have el : k + (st.stk.length - (k + 1)) = (st.stk.eraseIdx k).length := by rw [List.length_eraseIdx, if_pos hkl]; omega
    have ec : intCells (opens (st.stk.take k)) ++ intCells (opens (st.stk.drop (k + 1))) = intCells (opens (st.stk.eraseIdx k)) := by
      rw [List.eraseIdx_eq_take_drop_succ]; simp [intCells, opens]
    rw [el, ec] at RO
    obtain ⟨K1, K2⟩ := sOpen HH.out RO MB
    rw [← el] at K1 K2
    have FIN := Lib.hid (And.intro K1 K2)
    go_end0
    exact ⟨rfl, c4, ⟨_, FIN.out.1⟩, FIN.out.2⟩
end Go.Proofs.YtjmlkmlbhfkhbaaGreatDoor
