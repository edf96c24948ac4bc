/-
  grows, walked.
-/
import Derived.Test.YtjmlkmlbhfkhbaaGreatDoorGrw
namespace Go.Proofs.YtjmlkmlbhfkhbaaGreatDoor
open Go Go.RowKit

/-- The state between the trees. -/
def Mid (w : World) (c : Col) (wx : World) : Prop := ∃ cx, Mv Own w c wx cx
theorem ByOk.own {w w' : World} {c c' : Col} (H : ByOk w c) (hm : Mv Own w c w' c') : ByOk w' c' := H.mv hm fun _ h => h

set_option maxRecDepth 100000 in
set_option maxHeartbeats 8000000 in
theorem grows7 {w : World} {c : Col} (hg : Good w c) (hby : ByOk w c) :
    Calls Tryz.prog 7 #[] w fun e w' => e = .returned (.bool true) ∧ ∃ c', Mv Own w c w' c' := by
  have NEW : Hid (∀ (W : World) (C : Col), Mv Own w c W C → Calls Tryz.prog 50 #[] W fun e w' => ∃ c' h, h.sd = 1 ∧ e = .returned (.pointer (some ⟨h.b, 0, none⟩)) ∧ BRep w' c' h st0 ∧ Mv Own w c w' c') := Lib.hid fun W C hm => by
    refine (bNew (hm.gd hg) (sd := 1) (by decide)).mono ?_
    rintro e w' ⟨c', h, e1, e2, H, hM⟩
    exact ⟨c', h, e1, e2, H, hm.trans (hM.mono fun _ h => h.elim)⟩
  have BY := Lib.hid hby
  clear hg hby
  go_enter Tryz.func7, Tryz.ntmps7
  go_wp2_with fail
  refine (NEW.out w c (Mv.refl _ _ _)).mono ?_
  rintro e w1 ⟨c1, h1, hs1, rfl, H1, m1⟩
  go_wp2_with fail
  refine (bImply' H1 (st' := sA1) Wf.st0 (by omega) nHtml (k := 1) (by decide +kernel) (by decide +kernel) rfl).mono ?_
  rintro e w2 ⟨rfl, c2, H2, n2⟩
  have m2 := m1.trans (n2.own (by rw [hs1]; decide))
  go_wp2_with fail
  refine (bImply' H2 (st' := sA2) wA1 (by omega) nBody (k := 2) (by decide +kernel) (by decide +kernel) rfl).mono ?_
  rintro e w3 ⟨rfl, c3, H3, n3⟩
  have m3 := m2.trans (n3.own (by rw [hs1]; decide))
  go_wp2_with fail
  refine (bImply' H3 (st' := sA3) wA2 (by omega) nTable (k := 3) (by decide +kernel) (by decide +kernel) rfl).mono ?_
  rintro e w4 ⟨rfl, c4, H4, n4⟩
  have m4 := m3.trans (n4.own (by rw [hs1]; decide))
  go_wp2_with fail
  refine (bFoster H4 true).mono ?_
  rintro e w5 ⟨rfl, c5, H5, n5⟩
  have m5 := m4.trans (n5.own (by rw [hs1]; decide))
  go_wp2_with fail
  refine (gPlace H5).mono ?_
  rintro e w6 ⟨rfl, hb6⟩
  have m6 := m5.trans (Mv.of_below hb6)
  clear H1 H2 H3 H4 H5 n2 n3 n4 n5 m1 m2 m3 m4 m5 hb6 hs1
  go_wp2_with fail
  refine (NEW.out w6 c5 m6).mono ?_
  rintro e w1 ⟨c1, h1, hs1, rfl, H1, m1⟩
  go_wp2_with fail
  refine (bImply' H1 (st' := sA1) Wf.st0 (by omega) nHtml (k := 1) (by decide +kernel) (by decide +kernel) rfl).mono ?_
  rintro e w2 ⟨rfl, c2, H2, n2⟩
  have m2 := m1.trans (n2.own (by rw [hs1]; decide))
  go_wp2_with fail
  refine (bImply' H2 (st' := sA2) wA1 (by omega) nBody (k := 2) (by decide +kernel) (by decide +kernel) rfl).mono ?_
  rintro e w3 ⟨rfl, c3, H3, n3⟩
  have m3 := m2.trans (n3.own (by rw [hs1]; decide))
  go_wp2_with fail
  refine (bImply' H3 (st' := sB3) wA2 (by omega) nB (k := 3) (by decide +kernel) (by decide +kernel) rfl).mono ?_
  rintro e w4 ⟨rfl, c4, H4, n4⟩
  have m4 := m3.trans (n4.own (by rw [hs1]; decide))
  have F1 := Lib.hid (bFormats H4)
  go_wp2_with (go_at_call 32; refine F1.out.mono ?_; rintro e w5 ⟨rfl, rfl⟩)
  refine (gPush H4).mono ?_
  rintro e w5 ⟨rfl, c5, H5, n5⟩
  have m5 := m4.trans (n5.own (by rw [hs1]; decide))
  have S1 := Lib.hid (bStack H5)
  go_wp2_with (go_at_call 31; refine S1.out.mono ?_; rintro e w6 ⟨rfl, rfl⟩)
  refine (gPop H5).mono ?_
  rintro e w6 ⟨rfl, c6, H6, n6⟩
  have m6 := m5.trans (n6.own (by rw [hs1]; decide))
  go_wp2_with fail
  refine (gRebuild H6).mono ?_
  rintro e w7 ⟨rfl, c7, s7, H7, f7, n7⟩
  have m7 := m6.trans (n7.own (by rw [hs1]; decide))
  have F2 := Lib.hid (bFormats H7)
  obtain ⟨fA, fc, fv⟩ := H7.fv (by rw [f7]; decide)
  have AT := Lib.hid (fAt fv (k := 0) (n := 4) (by rw [f7]; rfl))
  clear fv F1 S1
  go_wp2_with (first
    | (go_at_call 32; refine F2.out.mono ?_; rintro e w8 ⟨rfl, rfl⟩)
    | (go_at_call 62; refine AT.out.mono ?_; rintro e w8 ⟨rfl, m, rfl⟩))
  have m8 := m7.trans (Mv.of_below (bdrewN w7 m))
  clear H1 H2 H3 H4 H5 H6 H7 n2 n3 n4 n5 n6 n7 m1 m2 m3 m4 m5 m6 m7 hs1 F2 AT f7
  go_wp2_with fail
  refine (NEW.out _ c7 m8).mono ?_
  rintro e w1 ⟨c1, h1, hs1, rfl, H1, m1⟩
  go_wp2_with fail
  refine (bImply' H1 (st' := sA1) Wf.st0 (by omega) nHtml (k := 1) (by decide +kernel) (by decide +kernel) rfl).mono ?_
  rintro e w2 ⟨rfl, c2, H2, n2⟩
  have m2 := m1.trans (n2.own (by rw [hs1]; decide))
  go_wp2_with fail
  refine (bImply' H2 (st' := sC2) wA1 (by omega) nTd (k := 2) (by decide +kernel) (by decide +kernel) rfl).mono ?_
  rintro e w3 ⟨rfl, c3, H3, n3⟩
  have m3 := m2.trans (n3.own (by rw [hs1]; decide))
  go_wp2_with fail
  refine (gReset1 H3 (BY.out.own m3)).mono ?_
  rintro e w4 ⟨rfl, c4, H4, n4⟩
  have m4 := m3.trans (n4.own (by rw [hs1]; decide))
  have MO := Lib.hid (bMode H4)
  rw [Go.Proofs.YtjmlkmlbhfkhbaaGreatDoor.m3] at MO
  go_wp2_with (go_at_call 33; refine MO.out.mono ?_; rintro e w8 ⟨rfl, rfl⟩)
  refine (bImply' H4 (st' := sC4) wC3 (by omega) nTr (k := 3) (by decide +kernel) (by decide +kernel) rfl).mono ?_
  rintro e w5 ⟨rfl, c5, H5, n5⟩
  have m5 := m4.trans (n5.own (by rw [hs1]; decide))
  clear MO
  go_wp2_with fail
  refine (gReset2 H5 (BY.out.own m5)).mono ?_
  rintro e w6 ⟨rfl, c6, H6, n6⟩
  have m6 := m5.trans (n6.own (by rw [hs1]; decide))
  have MO := Lib.hid (bMode H6)
  rw [Go.Proofs.YtjmlkmlbhfkhbaaGreatDoor.m5] at MO
  have ER := Lib.hid (bErr H6)
  go_wp2_with (first
    | (go_at_call 33; refine MO.out.mono ?_; rintro e w8 ⟨rfl, rfl⟩)
    | (go_at_call 41; refine ER.out.mono ?_; rintro e w8 ⟨rfl, hb8⟩))
  go_ret
  exact ⟨rfl, c6, m6.trans (Mv.of_below hb8)⟩
end Go.Proofs.YtjmlkmlbhfkhbaaGreatDoor
