/-
  HeadsBody (4): the walk.
-/
import Derived.Test.YtjmlkmlbhfkhbaaGreatDoorHb28
set_option linter.unusedSimpArgs false
set_option linter.unusedVariables false
namespace Go.Proofs.YtjmlkmlbhfkhbaaGreatDoor
open Go Go.RowKit

def Law4Q (w : World) (c : Col) (e : Ending) (w' : World) : Prop := e = .returned (.bool true) ∧ ∃ c', Mv Own w c w' c'

set_option maxRecDepth 100000 in
set_option maxHeartbeats 16000000 in
theorem law4 {w : World} {c : Col} (hg : Good w c) (L : Laid w c) {A : Option Addr} {cap : Nat} {l : List Tok} (HT : ToksAt w c A l) :
    Calls Tryz.prog 4 #[.slice A l.length cap] w (Law4Q w c) := by
  have GR := Lib.hid (great48 (cap := cap) HT 60 (by omega))
  have BG : Hid (∀ (W : World) (C : Col), Mv Own w c W C → Calls Tryz.prog 49 #[] W fun e w' => e = .returned (.bool true) ∧ ∃ c', Mv Own w c w' c') := Lib.hid fun W C hm => (begins49 (hm.gd hg) (L.mv hm fun _ h => h)).mono fun e w' ⟨h1, c', h2⟩ => ⟨h1, c', hm.trans h2⟩
  have NEW : Hid (∀ (W : World) (C : Col), Mv Own w c W C → Calls Tryz.prog 50 #[] W fun e w' => ∃ c' h, h.sd = 1 ∧ e = .returned (.pointer (some ⟨h.b, 0, none⟩)) ∧ BRep w' c' h st0 ∧ Mv Own w c w' c') := Lib.hid fun W C hm => by
    refine (bNew (hm.gd hg) (sd := 1) (by decide)).mono ?_
    rintro e w' ⟨c', h, e1, e2, H, hM⟩
    exact ⟨c', h, e1, e2, H, hm.trans (hM.mono fun _ h => h.elim)⟩
  have LD : Hid (∀ (W : World) (C : Col), Mv Own w c W C → Laid W C ∧ ToksAt W C A l) := Lib.hid fun W C hm => ⟨L.mv hm fun _ h => h, HT.mv hm fun _ h => h⟩
  clear hg L HT
  go_enter Tryz.func4, Tryz.ntmps4
  go_wp2_with fail
  refine GR.out.mono ?_
  rintro e w1 ⟨r, rfl, hr, hb1⟩
  have m1 : Mv Own w c w1 c := Mv.of_below hb1
  have HR := Lib.hid hr
  clear GR hr hb1
  cases r
  · go_wp2_with fail
    refine (NEW.out _ _ m1).mono ?_
    rintro e w2 ⟨c2, h, hsd, rfl, H2, m2⟩
    have IN : Hid (BRep w2 c2 h st0 ∧ Mv Own w c w2 c2) := Lib.hid ⟨H2, m2⟩
    have HSM := Lib.hid (HR.out (by first | rfl | trivial))
    have hlen := HSM.out.1
    have SD := Lib.hid hsd
    clear NEW HR H2 m1 m2 hsd
    go_wp2_with fail
    go_loopw [4] (fun t wr => ∃ (k : Nat) (s : St) (c' : Col), t = .int .i64 k ∧ k ≤ l.length ∧ Hid (BRep wr c' h s ∧ Mv Own w c wr c' ∧ Inv (1 + k * 20060) s)) (fun t _ => l.length - (intOf t).toNat)
    case atStart => exact ⟨0, st0, c2, rfl, Nat.zero_le _, Lib.hid ⟨IN.out.1, IN.out.2, inv0⟩⟩
    case round =>
      obtain ⟨k, s, c1, rfl, hk, hR⟩ := hrel
      have MO := Lib.hid (bMode hR.out.1)
      have OW := Lib.hid (lOwn' wr s.mode)
      by_cases hlt : k < l.length
      · have h2 : (k : Int) < (l.length : Int) := by omega
        have h3 : (0 : Int) ≤ (k : Int) := by omega
        obtain ⟨t, ht⟩ : ∃ t, l[k]? = some t := ⟨_, List.getElem?_eq_getElem hlt⟩
        obtain ⟨b, off, rfl, hbl, at_, d0, d1, d2, d3, d4, d5, d6, d7, d8⟩ := (LD.out _ _ hR.out.2.1).2.get ht
        have hw : IntKind.i64.wrap ((k : Int) + 1) = (k : Int) + 1 := by have := wrap_small (L := k + 1) (by omega); rwa [show (((k + 1 : Nat) : Int)) = (k : Int) + 1 by omega] at this
        have sm := HSM.out.2 t (List.mem_of_getElem? ht)
        have DO : Hid (ownB s.mode = true → Calls Tryz.prog 52 #[.pointer (some ⟨h.b, 0, none⟩), t.val] wr (OkB h (doesM 20 s t) (.tuple #[]) wr c1) ∧ Inv (1 + (k + 1) * 20060) (doesM 20 s t)) := Lib.hid fun ho =>
          ⟨lDoes hR.out.1 hR.out.2.2 (by omega) (LD.out _ _ hR.out.2.1).1.steps t ⟨sm.name, sm.text, sm.attrs, at_⟩, (hR.out.2.2.does sm 20).more (by omega)⟩
        clear at_ ht sm
        by_cases k8 : t.kind = 8
        · have k8' : (t.kind != 8) = false := by simp [k8]
          clear k8
          go_wp2_with fail
          go_roundw
          case rel => exact ⟨k + 1, s, c1, by rfl, by omega, Lib.hid ⟨hR.out.1, hR.out.2.1, hR.out.2.2.more (by omega)⟩⟩
          case measure => simp [intOf]; omega
        · have k8' : (t.kind != 8) = true := by simp [k8]
          clear k8
          cases ho : ownB s.mode
          · rw [ho] at OW
            clear ho DO
            go_wp2_with (first | (go_at_call 33; refine MO.out.mono ?_; rintro e w3 ⟨rfl, rfl⟩) | (go_at_call 51; refine OW.out.mono ?_; rintro e w3 ⟨rfl, rfl⟩))
            go_roundw
            case rel => exact ⟨k + 1, s, c1, by rfl, by omega, Lib.hid ⟨hR.out.1, hR.out.2.1, hR.out.2.2.more (by omega)⟩⟩
            case measure => simp [intOf]; omega
          · rw [ho] at OW
            have D2 := Lib.hid (DO.out ho)
            clear ho DO
            go_wp2_with (first | (go_at_call 33; refine MO.out.mono ?_; rintro e w3 ⟨rfl, rfl⟩) | (go_at_call 51; refine OW.out.mono ?_; rintro e w3 ⟨rfl, rfl⟩))
            refine D2.out.1.mono ?_
            rintro e w3 ⟨rfl, c3, H3, n3⟩
            clear d0 d1 d2 d3 d4 d5 d6 d7 d8
            go_wp2_with fail
            go_roundw
            case rel => exact ⟨k + 1, doesM 20 s t, c3, by rfl, by omega, Lib.hid ⟨H3, hR.out.2.1.trans (n3.own (by rw [SD.out]; decide)), D2.out.2⟩⟩
            case measure => simp [intOf]; omega
      · have h2 : ¬ (k : Int) < (l.length : Int) := by omega
        by_cases h15 : s.mode = 15
        · rw [h15] at MO
          have B9 := Lib.hid (BG.out _ _ hR.out.2.1)
          clear h15
          go_wp2_with (go_at_call 33; refine MO.out.mono ?_; rintro e w3 ⟨rfl, rfl⟩)
          refine B9.out.mono ?_
          rintro e w4 ⟨rfl, c4, m4⟩
          go_wp2_with fail
          go_ret
          exact ⟨rfl, c4, m4⟩
        · have h15' : (s.mode == 15) = false := by simp [h15]
          have ER := Lib.hid (bErr hR.out.1)
          have DE := Lib.hid (fun (W : World) (hb : Below wr.heap.size wr W) => bDoesE (hR.out.1.loc hb) hR.out.2.2 (by omega) (LD.out _ _ (hR.out.2.1.trans (Mv.of_below hb))).1 h15)
          clear h15
          go_wp2_with (first | (go_at_call 33; refine MO.out.mono ?_; rintro e w3 ⟨rfl, rfl⟩) | (go_at_call 41; refine ER.out.mono ?_; rintro e w3 ⟨rfl, hb3⟩))
          refine (DE.out _ hb3).mono ?_
          rintro e w4 ⟨rfl, c4, s4, a, b, d, H4, n4, AE, I4⟩
          have m4 : Mv Own w c w4 c4 := (hR.out.2.1.trans (Mv.of_below hb3)).trans (n4.own (by rw [SD.out]; decide))
          have AR := Lib.hid (bArena H4)
          have TREE := Lib.hid (aTree H4 I4.wf.sz (by omega) (key := (4, 0, 0)) (by rw [SD.out]; decide) (by decide))
          clear MO OW ER DE hb3 n4 hR
          go_wp2_with fail
          refine AR.out.mono ?_
          rintro e w5 ⟨rfl, rfl⟩
          go_wp2_with fail
          refine TREE.out.mono ?_
          rintro e w5 ⟨A5, cap5, c5, rfl, TR, n5⟩
          have m5 : Mv Own w c w5 c5 := m4.trans (n5.mono (T := Own) (fun k e => by rw [e]; unfold Own; decide))
          have H5 : BRep w5 c5 h s4 := H4.mv n5 (fun p i e => by have := congrArg (fun k : Key => k.1) e; simp only [SD.out] at this; exact absurd this (by decide))
          have hl0 : 0 < s4.ns.length := by have := I4.wf.sz.2.1; omega
          obtain ⟨n0, hn0⟩ : ∃ n0, s4.ns[0]? = some n0 := ⟨_, List.getElem?_eq_getElem hl0⟩
          obtain ⟨na, hna, ka, nma, spa⟩ := AE.trunk.html
          have f0 : n0.kids.filter (fun k => kindAt s4.ns k == 3) = [(a : Int)] := by have := AE.trunk.doc; unfold ek at this; rw [hn0] at this; exact this
          have f1 : na.kids.filter (fun k => kindAt s4.ns k == 3) = [(b : Int), (d : Int)] := by have := AE.trunk.kids; unfold ek at this; rw [hna] at this; exact this
          have hal := (List.getElem?_eq_some_iff.1 hna).1
          have KD := Lib.hid I4.wf.kid
          have HN := Lib.hid (And.intro hn0 hna)
          have FF := Lib.hid (And.intro f0 f1)
          have ST := Lib.hid (And.intro m5 (And.intro H5 (And.intro AE I4)))
          obtain ⟨g, x0, rfl, e0, q0, K0⟩ := TR.node hn0
          have t08 := q0 8 (by decide)
          simp only [NdC.cells, e0, List.getElem?_cons_succ, List.getElem?_cons_zero, Nat.zero_mul, Nat.zero_add] at t08
          have TRH := Lib.hid TR
          have KH := Lib.hid K0
          have NMA := Lib.hid nma
          obtain ⟨Ln, hLn⟩ : ∃ Ln, s4.ns.length = Ln := ⟨_, rfl⟩
          rw [hLn]
          have hz : ((Ln : Int) == 0) = false := beq_eq_false_iff_ne.2 (by omega)
          have hl0' : (0 : Int) < (Ln : Int) := by omega
          have hl0'' : 0 < Ln := by omega
          have LNH := Lib.hid hLn
          have HAL := Lib.hid hal
          clear hLn hl0 hal
          clear TR K0 q0 e0 f0 f1 hn0 hna ka nma spa AE I4 H4 H5 m4 m5 n5 AR TREE
          go_wp2_with fail
          go_loopw [6, 7] (fun r i wr => ∃ (k : Nat) (r0 : Int), r = .int .i64 r0 ∧ i = .int .i64 k ∧ k ≤ n0.kids.length ∧ wr = w5 ∧ Hid ((r0 = -1 ∧ (n0.kids.take k).filter (fun k => kindAt s4.ns k == 3) = []) ∨ (r0 = (a : Int) ∧ (n0.kids.take k).filter (fun k => kindAt s4.ns k == 3) = [(a : Int)]))) (fun _ i _ => n0.kids.length - (intOf i).toNat)
          case atStart => exact ⟨0, -1, rfl, rfl, Nat.zero_le _, rfl, Lib.hid (.inl ⟨rfl, by simp⟩)⟩
          case round =>
            obtain ⟨k2, r0, rfl, rfl, hk2, rfl, hF⟩ := hrel
            by_cases hlt2 : k2 < n0.kids.length
            · have g2 : (k2 : Int) < (n0.kids.length : Int) := by omega
              have g3 : (0 : Int) ≤ (k2 : Int) := by omega
              obtain ⟨x, hx⟩ : ∃ x, n0.kids[k2]? = some x := ⟨_, List.getElem?_eq_getElem hlt2⟩
              obtain ⟨x1, x2⟩ := KD.out 0 n0 HN.out.1 x (List.mem_of_getElem? hx)
              obtain ⟨xi, rfl⟩ : ∃ xi : Nat, x = (xi : Int) := ⟨x.toNat, by omega⟩
              obtain ⟨nx, hnx⟩ : ∃ nx, s4.ns[xi]? = some nx := ⟨_, List.getElem?_eq_getElem (by omega)⟩
              obtain ⟨g', xx, eg, ex, qx, -⟩ := TRH.out.node hnx
              obtain rfl : g = g' := by simpa using eg
              have tk := qx 0 (by decide)
              simp only [NdC.cells, ex, List.getElem?_cons_zero, Nat.add_zero] at tk
              obtain ⟨gk, eK, -, ck⟩ := KH.out (by intro h0; rw [h0] at hlt2; simp at hlt2)
              have ckx := ck k2 (xi : Int) hx
              have hkx : kindAt s4.ns (xi : Int) = nx.kind := by unfold kindAt; rw [Int.toNat_natCast, hnx]
              have HX := Lib.hid (And.intro hx hkx)
              have hw : IntKind.i64.wrap ((k2 : Int) + 1) = (k2 : Int) + 1 := by
                have hkl := (ST.out.2.2.2.wf.sz.2.2 0 n0 HN.out.1).2.1
                have := wrap_small (L := k2 + 1) (by omega); rwa [show (((k2 + 1 : Nat) : Int)) = (k2 : Int) + 1 by omega] at this
              have g4 : (0 : Int) ≤ (xi : Int) := by omega
              have g5 : (xi : Int) < (Ln : Int) := by have := LNH.out; omega
              rw [eK] at t08
              clear hx hkx hnx eg ex qx ck eK x1 x2
              by_cases k3 : nx.kind = 3
              · have k3' : (nx.kind == 3) = true := by simp [k3]
                have OK1 := one_kid FF.out.1 HX.out.1 (by simp only [HX.out.2]; exact k3')
                have hr0 : r0 = -1 := by
                  rcases hF.out with ⟨h1, -⟩ | ⟨-, h1⟩
                  · exact h1
                  · rw [OK1.1] at h1; cases h1
                subst hr0
                have O1 := Lib.hid OK1
                clear k3 OK1
                go_wp2_with fail
                go_roundw
                case rel => exact ⟨k2 + 1, (xi : Int), rfl, by rfl, by omega, (by first | rfl | trivial), Lib.hid (.inr ⟨O1.out.2.1, O1.out.2.2⟩)⟩
                case measure => simp [intOf]; omega
              · have k3' : (nx.kind == 3) = false := by simp [k3]
                have FT := filter_take (p := fun k => kindAt s4.ns k == 3) HX.out.1
                have hp : ¬ ((kindAt s4.ns (xi : Int) == 3) = true) := by rw [HX.out.2, k3']; simp
                rw [if_neg hp, List.append_nil] at FT
                have FTH := Lib.hid FT
                clear k3 FT hp
                go_wp2_with fail
                go_roundw
                case rel => exact ⟨k2 + 1, r0, rfl, by rfl, by omega, (by first | rfl | trivial), Lib.hid (by rw [FTH.out]; exact hF.out)⟩
                case measure => simp [intOf]; omega
            · have g2 : ¬ (k2 : Int) < (n0.kids.length : Int) := by omega
              obtain rfl : r0 = (a : Int) := by
                have hk3 : n0.kids.take k2 = n0.kids := List.take_of_length_le (by omega)
                rcases hF.out with ⟨-, h1⟩ | ⟨h1, -⟩
                · rw [hk3, FF.out.1] at h1; cases h1
                · exact h1
              obtain ⟨ga, xa, ega, exa, qa, Ka⟩ := TRH.out.node HN.out.2
              obtain rfl : g = ga := by simpa using ega
              have ta1 := qa 1 (by decide)
              have ta8 := qa 8 (by decide)
              simp only [NdC.cells, exa, List.getElem?_cons_succ, List.getElem?_cons_zero, NMA.out] at ta1 ta8
              have EXA := Lib.hid exa
              have QA := Lib.hid qa
              have g3 : (0 : Int) ≤ (a : Int) := by omega
              have g4 : (a : Int) < (Ln : Int) := by have := LNH.out; have := HAL.out; omega
              have g5 : ¬ (a : Int) < 0 := by omega
              obtain ⟨i9, hi9, y0, y1, y2⟩ := info_parts info9
              have HZ9 := Lib.hid (And.intro hi9 (And.intro y0 (And.intro y1 y2)))
              clear ega exa qa Ka hF
              go_wp2_with fail
              go_loopw [8, 9] (fun s i wr2 => ∃ (k3 : Nat) (strs : List Str) (A8 : Option Addr) (cap8 : Nat) (c8 : Col), s = .slice A8 strs.length cap8 ∧ i = .int .i64 k3 ∧ k3 ≤ na.kids.length ∧ Hid (RowOk wr2 c8 (5, 0, 0) 9 1 A8 strs.length cap8 (strs.map Value.string) ∧ strs = ((na.kids.take k3).filter (fun k => kindAt s4.ns k == 3)).map (nameOf s4.ns) ∧ Mv (· = (5, 0, 0)) wr c5 wr2 c8)) (fun _ i _ => na.kids.length - (intOf i).toNat)
              case atStart => exact ⟨0, [], none, 0, c5, rfl, rfl, Nat.zero_le _, Lib.hid ⟨by exact RowOk.none_, by simp, Mv.refl _ _ _⟩⟩
              case round =>
                obtain ⟨k3, strs, A8, cap8, c8, rfl, rfl, hk3, hF8⟩ := hrel
                have TR8 := TRH.out.mv hF8.out.2.2 (fun k e => by rw [e]; decide) (by decide)
                obtain ⟨ga, xa, ega, exa, qa, Ka⟩ := TR8.node HN.out.2
                obtain rfl : g = ga := by simpa using ega
                have ta8 := qa 8 (by decide)
                simp only [NdC.cells, exa, List.getElem?_cons_succ, List.getElem?_cons_zero] at ta8
                by_cases hlt3 : k3 < na.kids.length
                · have g2 : (k3 : Int) < (na.kids.length : Int) := by omega
                  have gk3 : (0 : Int) ≤ (k3 : Int) := by omega
                  obtain ⟨x, hx⟩ : ∃ x, na.kids[k3]? = some x := ⟨_, List.getElem?_eq_getElem hlt3⟩
                  obtain ⟨x1, x2⟩ := KD.out a na HN.out.2 x (List.mem_of_getElem? hx)
                  obtain ⟨xi, rfl⟩ : ∃ xi : Nat, x = (xi : Int) := ⟨x.toNat, by omega⟩
                  obtain ⟨nx, hnx⟩ : ∃ nx, s4.ns[xi]? = some nx := ⟨_, List.getElem?_eq_getElem (by omega)⟩
                  obtain ⟨g', xx, eg, ex, qx, -⟩ := TR8.node hnx
                  obtain rfl : g = g' := by simpa using eg
                  have z0 := qx 0 (by decide)
                  have z1 := qx 1 (by decide)
                  have z2 := qx 2 (by decide)
                  have z3 := qx 3 (by decide)
                  have z4 := qx 4 (by decide)
                  have z5 := qx 5 (by decide)
                  have z6 := qx 6 (by decide)
                  have z7 := qx 7 (by decide)
                  have z8 := qx 8 (by decide)
                  have z9 := qx 9 (by decide)
                  have z10 := qx 10 (by decide)
                  simp only [NdC.cells, ex, List.getElem?_cons_succ, List.getElem?_cons_zero, Nat.add_zero] at z0 z1 z2 z3 z4 z5 z6 z7 z8 z9 z10
                  obtain ⟨gk, eK, -, ck⟩ := Ka (by intro h0; rw [h0] at hlt3; simp at hlt3)
                  have ckx := ck k3 (xi : Int) hx
                  have hkx : kindAt s4.ns (xi : Int) = nx.kind := by unfold kindAt; rw [Int.toNat_natCast, hnx]
                  have hnm : nameOf s4.ns (xi : Int) = nx.name := by unfold nameOf; rw [Int.toNat_natCast, hnx]
                  have HX := Lib.hid (And.intro hx (And.intro hkx hnm))
                  have hw : IntKind.i64.wrap ((k3 : Int) + 1) = (k3 : Int) + 1 := by
                    have hkl := (ST.out.2.2.2.wf.sz.2.2 a na HN.out.2).2.1
                    have := wrap_small (L := k3 + 1) (by omega); rwa [show (((k3 + 1 : Nat) : Int)) = (k3 : Int) + 1 by omega] at this
                  have gx4 : (0 : Int) ≤ (xi : Int) := by omega
                  have gx5 : (xi : Int) < (Ln : Int) := by have := LNH.out; omega
                  have FT := filter_take (p := fun k => kindAt s4.ns k == 3) hx
                  rw [eK] at ta8
                  by_cases kk : nx.kind = 3
                  · have kk' : (nx.kind == 3) = true := by simp [kk]
                    rw [if_pos (by simp only [hkx]; exact kk')] at FT
                    have hsl : strs.length ≤ 2 := by
                      have h1 := congrArg List.length hF8.out.2.1
                      obtain ⟨r, hr⟩ := filter_pre (p := fun k => kindAt s4.ns k == 3) na.kids k3
                      have h2 := congrArg List.length hr
                      rw [FF.out.2] at h2
                      simp at h1 h2
                      omega
                    have FTH := Lib.hid FT
                    clear hx hkx hnm hnx eg ega ex exa qx qa ck eK x1 x2 FT kk Ka TR8
                    go_wp2_with (at_builtin; refine wpList_append_row _ c8 (5, 0, 0) rfl _ _ 73 rfl 9 i9 _ 1 16 Tryz.underlying73 HZ9.out.1 HZ9.out.2.1 HZ9.out.2.2.1 HZ9.out.2.2.2 rfl (by decide) _ strs.length cap8 (strs.map Value.string) rfl (by exact hF8.out.1.kp (kp_below (below_alloc (below_alloc (Below.refl _ _) _) _))) _ 1 1 [.string nx.name] rfl (by rfl) (by simp) (by exact (HB.at_ (by simp)).news) (by simp [Value.oneCell']) (by unfold maxLen; omega) (by omega) ?_; intro A9 cp9 w9 c9 hrow9 hmv9)
                    go_roundw
                    case rel => exact ⟨k3 + 1, strs ++ [nx.name], A9, cp9, c9, by simp, by rfl, by omega, Lib.hid ⟨by simpa using hrow9, by rw [FTH.out, List.map_append, ← hF8.out.2.1, List.map_singleton, HX.out.2.2], hF8.out.2.2.trans ((Mv.of_below (below_alloc (below_alloc (Below.refl _ _) _) _)).trans hmv9)⟩⟩
                    case measure => simp [intOf]; omega
                  · have kk' : (nx.kind == 3) = false := by simp [kk]
                    rw [if_neg (by simp only [hkx]; rw [kk']; simp), List.append_nil] at FT
                    have FTH := Lib.hid FT
                    clear hx hkx hnm hnx eg ega ex exa qx qa ck eK x1 x2 FT kk Ka TR8
                    go_wp2_with fail
                    go_roundw
                    case rel => exact ⟨k3 + 1, strs, A8, cap8, c8, rfl, by rfl, by omega, Lib.hid ⟨hF8.out.1.kp (kp_below (below_alloc (Below.refl _ _) _)), by rw [FTH.out]; exact hF8.out.2.1, hF8.out.2.2.trans (Mv.of_below (below_alloc (Below.refl _ _) _))⟩⟩
                    case measure => simp [intOf]; omega
                · have g2 : ¬ (k3 : Int) < (na.kids.length : Int) := by omega
                  have hst : strs = [mHead, mBody] := by
                    rw [hF8.out.2.1, List.take_of_length_le (by omega), FF.out.2]
                    obtain ⟨nb, hb1, -, hb2, -⟩ := ST.out.2.2.1.head
                    obtain ⟨nd, hd1, -, hd2, -⟩ := ST.out.2.2.1.body
                    simp only [List.map_cons, List.map_nil, nameOf, Int.toNat_natCast, hb1, hd1, hb2, hd2]
                  subst hst
                  obtain ⟨gn, rfl, -, -, cn, -⟩ := hF8.out.1.at_ (by decide)
                  have cn0 := cn 0 (.string mHead) rfl
                  have cn1 := cn 1 (.string mBody) rfl
                  have M8 : Mv Own w c wr c8 := ST.out.1.trans (hF8.out.2.2.mono (T := Own) (fun k e => by rw [e]; unfold Own; decide))
                  have H8 : BRep wr c8 h s4 := ST.out.2.1.mv hF8.out.2.2 (fun p i e => by have := congrArg (fun k : Key => k.1) e; simp only [SD.out] at this; exact absurd this (by decide))
                  have MO8 := Lib.hid (bMode H8)
                  rw [ST.out.2.2.1.mode] at MO8
                  obtain ⟨nd, hd1, hd2, hd3, hd4⟩ := ST.out.2.2.1.body
                  have htop : topOf s4.stk = (d : Int) := by rw [ST.out.2.2.1.stk]; exact topOf_append (l := [⟨(a : Int), 0, mHtml⟩]) (o := ⟨(d : Int), 0, mBody⟩)
                  have hb8 : Below wr.heap.size wr (wr.alloc (.cells #[.string mBody] 9)) := below_alloc (Below.refl _ _) _
                  have IS8 := Lib.hid (bIs (H8.loc hb8) ST.out.2.2.2.wf.sz (by omega) (by rw [ST.out.2.2.1.stk]; simp) htop hd1 wr.heap.size 1 [mBody] (by decide) (by exact Strs.mk_ (w := wr) [mBody] rfl))
                  rw [show htmlN nd [mBody] = true by unfold htmlN; rw [hd2, hd3, hd4]; decide +kernel] at IS8
                  have BG8 : Hid (∀ W, Below wr.heap.size wr W → Calls Tryz.prog 49 #[] W fun e w' => e = .returned (.bool true) ∧ ∃ c', Mv Own w c w' c') := Lib.hid fun W hb => BG.out W c8 (M8.trans (Mv.of_below hb))
                  have HB8 := Lib.hid hb8
                  clear hd1 hd2 hd3 hd4 htop cn ega exa qa Ka TR8 hb8 H8 M8
                  go_wp2_with (go_at_call 33; refine MO8.out.mono ?_; rintro e w9 ⟨rfl, rfl⟩)
                  refine IS8.out.mono ?_
                  rintro e w9 ⟨rfl, hb9⟩
                  go_wp2_with fail
                  refine (BG8.out _ (below_step HB8.out hb9)).mono ?_
                  rintro e w10 ⟨rfl, c10, m10⟩
                  go_wp2_with fail
                  go_ret
                  exact ⟨rfl, c10, m10⟩
  · go_wp2_with fail
    refine (BG.out _ _ m1).mono ?_
    rintro e w2 ⟨rfl, c2, m2⟩
    go_wp2_with fail
    go_ret
    exact ⟨rfl, c2, m2⟩
end Go.Proofs.YtjmlkmlbhfkhbaaGreatDoor
