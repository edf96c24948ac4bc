/-
  HeadsPlay (5): the walk.
-/
import Derived.Test.YtjmlkmlbhfkhbaaGreatDoorHp40
import Derived.Test.YtjmlkmlbhfkhbaaGreatDoorHp26
import Derived.Test.YtjmlkmlbhfkhbaaGreatDoorHp34
import Derived.Test.YtjmlkmlbhfkhbaaGreatDoorHp30
import Derived.Test.YtjmlkmlbhfkhbaaGreatDoorHp42
import Derived.Test.YtjmlkmlbhfkhbaaGreatDoorHp33
import Derived.Deep.RegionHeld3
set_option linter.unusedSimpArgs false
set_option linter.unusedVariables false
namespace Go.Proofs.YtjmlkmlbhfkhbaaGreatDoor
open Go Go.RowKit

def Law5Q (w : World) (c : Col) (e : Ending) (w' : World) : Prop := e = .returned (.bool true) ∧ ∃ c', Mv Own w c w' c'

/-- Both sides hold one state. -/
structure Both (w0 : World) (c0 : Col) (h : Hd) (g : Sd) (N : Nat) (w : World) (c : Col) (st : St) : Prop where
  b : BRep w c h st
  s : SRep w c g st
  mv : Mv Own w0 c0 w c
  inv : Inv N st
  hd : h.sd = 1
  gd : g.sd = 2
theorem Both.loc {w0 : World} {c0 : Col} {h : Hd} {g : Sd} {N : Nat} {w w' : World} {c : Col} {st : St} (H : Both w0 c0 h g N w c st) (hb : Below w.heap.size w w') : Both w0 c0 h g N w' c st :=
  ⟨H.b.loc hb, H.s.loc hb, H.mv.trans (Mv.of_below hb), H.inv, H.hd, H.gd⟩
theorem Both.more {w0 : World} {c0 : Col} {h : Hd} {g : Sd} {N M : Nat} {w : World} {c : Col} {st : St} (H : Both w0 c0 h g N w c st) (hm : N ≤ M) : Both w0 c0 h g M w c st :=
  ⟨H.b, H.s, H.mv, H.inv.more hm, H.hd, H.gd⟩

/-- A step of both sides, and Same behind it. -/
theorem both_step {w0 : World} {c0 : Col} {h : Hd} {g : Sd} {N : Nat} {w : World} {c : Col} {st : St} (H : Both w0 c0 h g N w c st) (hN : N ≤ 880000) (ho : ownB st.mode = true) (L : StepsOk w c) (t : Tok) (ht : TkOk w c t) :
    Calls Tryz.prog 55 #[.pointer (some ⟨h.b, 0, none⟩), t.val] w fun e w1 => e = .returned (.bool (stepM st t).2) ∧ ∃ c1, Mv Own w c w1 c1 ∧
      ∀ W, Below w1.heap.size w1 W → Calls Tryz.prog 56 #[.pointer (some ⟨g.g, 0, none⟩), t.val] W fun e w2 => e = .returned (.bool (stepM st t).2) ∧ (∃ c2, Mv Own w c w2 c2) ∧
        Calls Tryz.prog 57 #[.pointer (some ⟨h.b, 0, none⟩), .pointer (some ⟨g.g, 0, none⟩)] w2 fun e w3 => e = .returned (.bool true) ∧ ∃ c3, Both w0 c0 h g (N + 1003) w3 c3 { (stepM st t).1 with ask := none } := by
  have hs0 := H.inv.shp.stk_le ho
  obtain ⟨hf0, hm0⟩ := H.inv.em.own ho
  have hL := Lens.step H.inv ho t
  have l1 := hL.stk
  have l2 := hL.fmt
  have l3 := hL.modes
  rw [hf0] at l2
  rw [hm0] at l3
  simp only [List.length_nil] at l2 l3
  refine (hStep H.b H.inv (by omega) ho L t ht).mono ?_
  rintro e w1 ⟨rfl, c1, H1, m1⟩
  have n1 := m1.own (by rw [H.hd]; decide)
  refine ⟨rfl, c1, n1, fun W hW => ?_⟩
  have S1 : SRep W c1 g st := (H.s.mv m1 (fun p i e => by unfold Pr at e; rw [H.hd, H.gd] at e; cases e)).loc hW
  have T1 : TkOk W c1 t := (ht.mv (by rw [H.hd]; decide) m1).loc hW
  refine (rStep S1 H.inv (by omega) ho t T1).mono ?_
  rintro e w2 ⟨rfl, c2, S2, m2⟩
  have H2 := (H1.loc hW).mv m2 (fun p i e => by unfold PrS at e; rw [H.hd, H.gd] at e; cases e)
  have n2 : Mv Own w c w2 c2 := n1.trans ((Mv.of_below hW).trans (m2.mono (T := Own) (fun k e => by unfold PrS at e; unfold Own; rw [e, H.gd]; decide)))
  have I2 := H.inv.step ht.sm (t := t)
  refine ⟨rfl, ⟨c2, n2⟩, (lSame (N := N + 1003) ⟨H2, S2, I2.wf, by omega, by omega, by omega, by omega, H.hd, H.gd⟩).mono ?_⟩
  rintro e w3 ⟨rfl, c3, H3, S3, m3⟩
  exact ⟨rfl, c3, H3, S3, H.mv.trans (n2.trans m3), I2.ask none, H.hd, H.gd⟩

set_option maxRecDepth 100000 in
set_option maxHeartbeats 16000000 in
theorem law5 {w : World} {c : Col} (hg : Good w c) (L : Laid w c) {A : Option Addr} {cap : Nat} {l : List Tok} (HT : ToksAt w c A l) :
    Calls Tryz.prog 5 #[.slice A l.length cap] w (Law5Q w c) := by
  have GR := Lib.hid (great48 (cap := cap) HT 80 (by omega))
  have BG : Hid (∀ (W : World) (C : Col), Mv Own w c W C → Calls Tryz.prog 49 #[] W fun e w' => e = .returned (.bool true) ∧ ∃ c', Mv Own w c w' c') := Lib.hid fun W C hm => (begins49 (hm.gd hg) (L.mv hm fun _ h => h)).mono fun e w' ⟨h1, c', h2⟩ => ⟨h1, c', hm.trans h2⟩
  have NEW : Hid (∀ (W : World) (C : Col), Mv Own w c W C → Calls Tryz.prog 50 #[] W fun e w' => ∃ c' h, h.sd = 1 ∧ e = .returned (.pointer (some ⟨h.b, 0, none⟩)) ∧ BRep w' c' h st0 ∧ Mv Own w c w' c') := Lib.hid fun W C hm => by
    refine (bNew (hm.gd hg) (sd := 1) (by decide)).mono ?_
    rintro e w' ⟨c', h, e1, e2, H, hM⟩
    exact ⟨c', h, e1, e2, H, hm.trans (hM.mono fun _ h => h.elim)⟩
  have RNEW : Hid (∀ (W : World) (C : Col) (h : Hd), h.sd = 1 → BRep W C h st0 → Mv Own w c W C → Calls Tryz.prog 54 #[] W fun e w' => ∃ c' g, e = .returned (.pointer (some ⟨g.g, 0, none⟩)) ∧ Both w c h g 1 w' c' st0) := Lib.hid fun W C h hsd H hm => by
    refine (rNew (hm.gd hg) (sd := 2) (by decide)).mono ?_
    rintro e w' ⟨c', g, e1, e2, S, hM⟩
    exact ⟨c', g, e2, H.mv hM (fun _ _ h => h), S, hm.trans (hM.mono fun _ h => h.elim), inv0, hsd, e1⟩
  have LD : Hid (∀ (W : World) (C : Col), Mv Own w c W C → Laid W C ∧ ToksAt W C A l) := Lib.hid fun W C hm => ⟨L.mv hm fun _ h => h, HT.mv hm fun _ h => h⟩
  clear hg L HT
  go_enter Tryz.func5, Tryz.ntmps5
  go_wp2_with fail
  refine GR.out.mono ?_
  rintro e w1 ⟨r, rfl, hr, hb1⟩
  have m1 : Mv Own w c w1 c := Mv.of_below hb1
  have HR := Lib.hid hr
  clear GR hr hb1
  cases r
  · go_wp2_with fail
    refine (NEW.out _ _ m1).mono ?_
    rintro e w2 ⟨c2, h, hsd, rfl, H2, m2⟩
    have RN := Lib.hid (RNEW.out _ _ h hsd H2 m2)
    have HSM := Lib.hid (HR.out (by first | rfl | trivial))
    have hlen := HSM.out.1
    clear NEW HR H2 m1 m2 hsd RNEW
    go_wp2_with fail
    refine RN.out.mono ?_
    rintro e w3 ⟨c3, g, rfl, B3⟩
    have IN := Lib.hid B3
    clear RN B3
    go_wp2_with fail
    go_loopw [5] (fun t wr => ∃ (k : Nat) (s : St) (c' : Col), t = .int .i64 k ∧ k ≤ l.length ∧ Hid (Both w c h g (1 + k * 8024) wr c' s)) (fun t _ => l.length - (intOf t).toNat)
    case atStart => exact ⟨0, st0, c3, rfl, Nat.zero_le _, IN⟩
    case round =>
      obtain ⟨k, s, c1, rfl, hk, hR⟩ := hrel
      obtain ⟨wo, rfl⟩ : ∃ wo : World, wo = wr := ⟨_, rfl⟩
      by_cases hlt : k < l.length
      · have h2 : (k : Int) < (l.length : Int) := by omega
        have h3 : (0 : Int) ≤ (k : Int) := by omega
        obtain ⟨t, ht⟩ : ∃ t, l[k]? = some t := ⟨_, List.getElem?_eq_getElem hlt⟩
        have hw : IntKind.i64.wrap ((k : Int) + 1) = (k : Int) + 1 := by have := wrap_small (L := k + 1) (by omega); rwa [show (((k + 1 : Nat) : Int)) = (k : Int) + 1 by omega] at this
        have sm := HSM.out.2 t (List.mem_of_getElem? ht)
        have HT1 := Lib.hid (And.intro ht sm)
        obtain ⟨b, off, rfl, -⟩ := (LD.out _ _ hR.out.mv).2.get ht
        have TK : Hid (∀ W C, Mv Own w c W C → (W.cell? ⟨b, off + k * 9, none⟩ = some (.int .i64 t.kind) ∧ W.cell? ⟨b, off + k * 9 + 1, none⟩ = some (.string t.name) ∧ W.cell? ⟨b, off + k * 9 + 2, none⟩ = some (.string t.text) ∧ W.cell? ⟨b, off + k * 9 + 3, none⟩ = some (.slice t.aA t.attrs.length t.acap) ∧ W.cell? ⟨b, off + k * 9 + 4, none⟩ = some (.bool t.dup) ∧ W.cell? ⟨b, off + k * 9 + 5, none⟩ = some (.bool t.self) ∧ W.cell? ⟨b, off + k * 9 + 6, none⟩ = some (.bool t.quirks) ∧ W.cell? ⟨b, off + k * 9 + 7, none⟩ = some (.int .i64 t.frm) ∧ W.cell? ⟨b, off + k * 9 + 8, none⟩ = some (.int .i64 t.to_)) ∧ TkOk W C t) := Lib.hid fun W C hm => by
          obtain ⟨b', off', eb, -, at_, d0, d1, d2, d3, d4, d5, d6, d7, d8⟩ := (LD.out W C hm).2.get HT1.out.1
          obtain ⟨rfl, rfl⟩ : b = b' ∧ off = off' := by simpa using eb
          exact ⟨⟨d0, d1, d2, d3, d4, d5, d6, d7, d8⟩, HT1.out.2.name, HT1.out.2.text, HT1.out.2.attrs, at_⟩
        have LS : Hid (∀ W C, Mv Own w c W C → StepsOk W C) := Lib.hid fun W C hm => (LD.out W C hm).1.steps
        clear ht sm
        go_wp2_with fail
        go_loopw [6] (fun t wr => ∃ (n : Nat) (s' : St) (c' : Col), t = .int .i64 n ∧ n ≤ 8 ∧ Hid (Both w c h g (1 + k * 8024 + n * 1003) wr c' s')) (fun t _ => 8 - (intOf t).toNat)
        case atStart => exact ⟨0, s, c1, rfl, by omega, hR⟩
        case round =>
          obtain ⟨n, s', c2, rfl, hn, hQ⟩ := hrel
          obtain ⟨wi, rfl⟩ : ∃ wi : World, wi = wr := ⟨_, rfl⟩
          obtain ⟨X, HX⟩ := hQ.out.s
          obtain ⟨-, -, -, y3, -, -, -, -, -, -, -, -, -, -, -, y15, -⟩ := HX.bc
          clear HX
          by_cases hn8 : n < 8
          · have g2 : (n : Int) < 8 := by omega
            have OW := Lib.hid (lOwn' wi s'.mode)
            have hwn : IntKind.i64.wrap ((n : Int) + 1) = (n : Int) + 1 := by have := wrap_small (L := n + 1) (by omega); rwa [show (((n + 1 : Nat) : Int)) = (n : Int) + 1 by omega] at this
            cases ho : ownB s'.mode
            · rw [ho] at OW
              clear ho
              go_wp2_with (go_at_call 51; refine OW.out.mono ?_; rintro e w4 ⟨rfl, rfl⟩)
              have TB := Lib.hid (TK.out wi _ hQ.out.mv).2
              have hK3 := (TK.out _ _ (hQ.out.loc (below_drew (Below.refl wi.heap.size wi))).mv).1
              have KB := Lib.hid (fun (V : World) (hb : Below wi.heap.size wi V) => (TK.out _ _ (hQ.out.loc hb).mv).1)
              go_region_held3 (fun w' => w'.cell? ⟨b, off + k * 9, none⟩ = some (.int .i64 t.kind) ∧ w'.cell? ⟨b, off + k * 9 + 1, none⟩ = some (.string t.name) ∧ w'.cell? ⟨b, off + k * 9 + 2, none⟩ = some (.string t.text) ∧ w'.cell? ⟨b, off + k * 9 + 3, none⟩ = some (.slice t.aA t.attrs.length t.acap) ∧ w'.cell? ⟨b, off + k * 9 + 4, none⟩ = some (.bool t.dup) ∧ w'.cell? ⟨b, off + k * 9 + 5, none⟩ = some (.bool t.self) ∧ w'.cell? ⟨b, off + k * 9 + 6, none⟩ = some (.bool t.quirks) ∧ w'.cell? ⟨b, off + k * 9 + 7, none⟩ = some (.int .i64 t.frm) ∧ w'.cell? ⟨b, off + k * 9 + 8, none⟩ = some (.int .i64 t.to_)) (first | exact hK3 | exact hK4 | exact hK5)
                (first
                  | (go_at_call 58; refine (hBelongs _ t).mono ?_; rintro e w4 ⟨rfl, hb4⟩; have hB4 := below_step (below_drew (Below.refl wi.heap.size wi)) hb4; have hK4 := KB.out _ hB4)
                  | (go_at_call 59; refine (rBelongs _ t).mono ?_; rintro e w5 ⟨rfl, hb5⟩; have hB5 := below_step hB4 hb5; have hK5 := KB.out _ hB5))
              all_goals
                generalize belB t = bl at *
                clear hK3 hK4 hK5
                go_wp2_with fail
                go_roundw
                case rel => exact ⟨k + 1, _, _, by rfl, by omega, Lib.hid ((hQ.out.loc hB5).more (by omega))⟩
                case measure => simp [intOf]; omega
            · rw [ho] at OW
              have hbd : Below wi.heap.size wi wi.drew := below_drew (Below.refl _ _)
              have ST := Lib.hid (both_step (hQ.out.loc hbd) (by omega) ho (LS.out _ _ (hQ.out.loc hbd).mv) t (TK.out _ _ (hQ.out.loc hbd).mv).2)
              clear ho
              go_wp2_with (go_at_call 51; refine OW.out.mono ?_; rintro e w4 ⟨rfl, rfl⟩)
              have hK3 := (TK.out _ _ (hQ.out.loc hbd).mv).1
              have MD := Lib.hid (hQ.out.loc hbd).mv
              clear y3 y15 OW
              generalize hM : (stepM s' t).2 = r at *
              clear hM
              go_region_held3 (fun w' => w'.cell? ⟨b, off + k * 9, none⟩ = some (.int .i64 t.kind) ∧ w'.cell? ⟨b, off + k * 9 + 1, none⟩ = some (.string t.name) ∧ w'.cell? ⟨b, off + k * 9 + 2, none⟩ = some (.string t.text) ∧ w'.cell? ⟨b, off + k * 9 + 3, none⟩ = some (.slice t.aA t.attrs.length t.acap) ∧ w'.cell? ⟨b, off + k * 9 + 4, none⟩ = some (.bool t.dup) ∧ w'.cell? ⟨b, off + k * 9 + 5, none⟩ = some (.bool t.self) ∧ w'.cell? ⟨b, off + k * 9 + 6, none⟩ = some (.bool t.quirks) ∧ w'.cell? ⟨b, off + k * 9 + 7, none⟩ = some (.int .i64 t.frm) ∧ w'.cell? ⟨b, off + k * 9 + 8, none⟩ = some (.int .i64 t.to_)) (first | exact hK3 | exact hK4 | exact hK5)
                (first
                  | (go_at_call 55; refine ST.out.mono ?_; rintro e w4 ⟨rfl, c4, m4, RS⟩; have hK4 := (TK.out _ _ (MD.out.trans m4)).1; have R1 := Lib.hid (RS _ (Below.refl _ _)); have K5 := Lib.hid (MD.out.trans m4); clear RS m4)
                  | (go_at_call 56; refine R1.out.mono ?_; rintro e w5 ⟨rfl, ⟨c5, m5⟩, SM⟩; have hK5 := (TK.out _ _ (MD.out.trans m5)).1; have SMH := Lib.hid SM; clear SM m5))
              all_goals
                clear hK3 hK4 hK5
                cases r
                · go_wp2_with fail
                  refine SMH.out.mono ?_
                  rintro e w6 ⟨rfl, c6, B6⟩
                  have HQ6 := Lib.hid B6
                  clear B6
                  go_wp2_with fail
                  have TB := Lib.hid (TK.out w6 _ HQ6.out.mv).2
                  have hK3 := (TK.out _ _ (HQ6.out.loc (below_drew (Below.refl w6.heap.size w6))).mv).1
                  have KB := Lib.hid (fun (V : World) (hb : Below w6.heap.size w6 V) => (TK.out _ _ (HQ6.out.loc hb).mv).1)
                  go_region_held3 (fun w' => w'.cell? ⟨b, off + k * 9, none⟩ = some (.int .i64 t.kind) ∧ w'.cell? ⟨b, off + k * 9 + 1, none⟩ = some (.string t.name) ∧ w'.cell? ⟨b, off + k * 9 + 2, none⟩ = some (.string t.text) ∧ w'.cell? ⟨b, off + k * 9 + 3, none⟩ = some (.slice t.aA t.attrs.length t.acap) ∧ w'.cell? ⟨b, off + k * 9 + 4, none⟩ = some (.bool t.dup) ∧ w'.cell? ⟨b, off + k * 9 + 5, none⟩ = some (.bool t.self) ∧ w'.cell? ⟨b, off + k * 9 + 6, none⟩ = some (.bool t.quirks) ∧ w'.cell? ⟨b, off + k * 9 + 7, none⟩ = some (.int .i64 t.frm) ∧ w'.cell? ⟨b, off + k * 9 + 8, none⟩ = some (.int .i64 t.to_)) (first | exact hK3 | exact hK4 | exact hK5)
                    (first
                      | (go_at_call 58; refine (hBelongs _ t).mono ?_; rintro e w4 ⟨rfl, hb4⟩; have hB4 := below_step (below_drew (Below.refl w6.heap.size w6)) hb4; have hK4 := KB.out _ hB4)
                      | (go_at_call 59; refine (rBelongs _ t).mono ?_; rintro e w5 ⟨rfl, hb5⟩; have hB5 := below_step hB4 hb5; have hK5 := KB.out _ hB5))
                  all_goals
                    generalize belB t = bl at *
                    clear hK3 hK4 hK5
                    go_wp2_with fail
                    go_roundw
                    case rel => exact ⟨k + 1, _, _, by rfl, by omega, Lib.hid ((HQ6.out.loc hB5).more (by omega))⟩
                    case measure => simp [intOf]; omega
                · go_wp2_with fail
                  refine SMH.out.mono ?_
                  rintro e w6 ⟨rfl, c6, B6⟩
                  have HQ6 := Lib.hid B6
                  clear B6
                  go_wp2_with fail
                  go_roundw
                  case rel => exact ⟨n + 1, _, c6, by rfl, by omega, Lib.hid (HQ6.out.more (by omega))⟩
                  case measure => simp [intOf]; omega
          · have g2 : ¬ (n : Int) < 8 := by omega
            go_wp2_with fail
            have TB := Lib.hid (TK.out wi _ hQ.out.mv).2
            have hK3 := (TK.out _ _ (hQ.out.loc (below_drew (Below.refl wi.heap.size wi))).mv).1
            have KB := Lib.hid (fun (V : World) (hb : Below wi.heap.size wi V) => (TK.out _ _ (hQ.out.loc hb).mv).1)
            go_region_held3 (fun w' => w'.cell? ⟨b, off + k * 9, none⟩ = some (.int .i64 t.kind) ∧ w'.cell? ⟨b, off + k * 9 + 1, none⟩ = some (.string t.name) ∧ w'.cell? ⟨b, off + k * 9 + 2, none⟩ = some (.string t.text) ∧ w'.cell? ⟨b, off + k * 9 + 3, none⟩ = some (.slice t.aA t.attrs.length t.acap) ∧ w'.cell? ⟨b, off + k * 9 + 4, none⟩ = some (.bool t.dup) ∧ w'.cell? ⟨b, off + k * 9 + 5, none⟩ = some (.bool t.self) ∧ w'.cell? ⟨b, off + k * 9 + 6, none⟩ = some (.bool t.quirks) ∧ w'.cell? ⟨b, off + k * 9 + 7, none⟩ = some (.int .i64 t.frm) ∧ w'.cell? ⟨b, off + k * 9 + 8, none⟩ = some (.int .i64 t.to_)) (first | exact hK3 | exact hK4 | exact hK5)
              (first
                | (go_at_call 58; refine (hBelongs _ t).mono ?_; rintro e w4 ⟨rfl, hb4⟩; have hB4 := below_step (below_drew (Below.refl wi.heap.size wi)) hb4; have hK4 := KB.out _ hB4)
                | (go_at_call 59; refine (rBelongs _ t).mono ?_; rintro e w5 ⟨rfl, hb5⟩; have hB5 := below_step hB4 hb5; have hK5 := KB.out _ hB5))
            all_goals
              generalize belB t = bl at *
              clear hK3 hK4 hK5
              go_wp2_with fail
              go_roundw
              case rel => exact ⟨k + 1, _, _, by rfl, by omega, Lib.hid ((hQ.out.loc hB5).more (by omega))⟩
              case measure => simp [intOf]; omega
      · have h2 : ¬ (k : Int) < (l.length : Int) := by omega
        have B9 := Lib.hid (BG.out _ _ hR.out.mv)
        go_wp2_with fail
        refine B9.out.mono ?_
        rintro e w4 ⟨rfl, c4, m4⟩
        go_wp2_with fail
        go_ret
        exact ⟨rfl, c4, m4⟩
  · go_wp2_with fail
    refine (BG.out _ _ m1).mono ?_
    rintro e w2 ⟨rfl, c2, m2⟩
    go_wp2_with fail
    go_ret
    exact ⟨rfl, c2, m2⟩
end Go.Proofs.YtjmlkmlbhfkhbaaGreatDoor
