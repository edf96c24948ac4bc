/-
  Same (57) where nothing is asked.
-/
import Derived.Test.YtjmlkmlbhfkhbaaGreatDoorHp38
import Derived.BigQuiet
set_option linter.unusedSimpArgs false
set_option linter.unusedVariables false
namespace Go.Proofs.YtjmlkmlbhfkhbaaGreatDoor
open Go Go.RowKit

set_option maxRecDepth 100000 in
set_option maxHeartbeats 16000000 in
theorem lSame0 {w : World} {c : Col} {h : Hd} {g : Sd} {st : St} {N : Nat} (H : SameIn w c h g st N) (hq : st.ask.isSome = false) :
    Calls Tryz.prog 57 #[.pointer (some ⟨h.b, 0, none⟩), .pointer (some ⟨g.g, 0, none⟩)] w (SameQ h g st w c) := by
  have ER := Lib.hid (fun (W : World) (hb : Below w.heap.size w W) => bErr (H.b.loc hb))
  have MD := Lib.hid (fun (W : World) (hb : Below w.heap.size w W) => bModes (H.b.loc hb) (by have := H.modes; omega))
  have AK := Lib.hid (fun (W : World) (hb : Below w.heap.size w W) => lAsk (H.b.loc hb))
  have IN := Lib.hid H
  obtain ⟨X, HX⟩ := H.s
  have y15 := HX.bc.2.2.2.2.2.2.2.2.2.2.2.2.2.2.2.1
  have yl := HX.hb.lt
  have Y15 : Hid (∀ W, Below w.heap.size w W → W.cell? ⟨g.g, 15, none⟩ = some (.int .i64 0)) := Lib.hid fun W hW => ((bcell hW).1 g.g 15 yl).trans y15
  clear H HX
  go_enter Tryz.func57, Tryz.ntmps57
  go_wp2_with fail
  go_cut [20] (fun s20 wx => s20 = .bool false ∧ Below w.heap.size w wx)
  case first =>
    go_region_with (go_at_call 41; refine (ER.out _ (below_drew (Below.refl _ _))).mono ?_; rintro e w1 ⟨rfl, hb1⟩; have hB1 := below_step (below_drew (Below.refl w.heap.size w)) hb1; have y15' := Y15.out _ hB1)
    all_goals
      go_wp2_with fail
      go_meet
      case rel => exact ⟨rfl, hB1⟩
  case rest =>
    obtain ⟨rfl, hB1⟩ := hcut
    have z15 := Y15.out _ hB1
    have MD1 := Lib.hid (MD.out _ hB1)
    have AK1 := Lib.hid (fun W (hb : Below wc.heap.size wc W) => AK.out W (below_step hB1 hb))
    have HB1 := Lib.hid hB1
    clear MD AK ER y15 yl Y15 hB1
    go_wp2_with fail
    refine MD1.out.mono ?_
    rintro e w2 ⟨A, cap, rfl, hb2, rA⟩
    have HB2 := Lib.hid (below_step HB1.out hb2)
    have RA := Lib.hid rA
    have AK2 := Lib.hid (AK1.out _ hb2)
    clear z15 MD1 AK1 rA hb2
    go_upto_region 7 with (go_at_call 29; refine AK2.out.mono ?_; rintro e w3 ⟨rfl, c3, H3, m3⟩)
    have S3 : SRep w3 c3 g st := (IN.out.s.loc HB2.out).mv m3 (fun p i e => by unfold Pr at e; rw [IN.out.hd, IN.out.gd] at e; cases e)
    have M3 : Mv Own w c w3 c3 := (Mv.of_below HB2.out).trans (m3.own (by rw [IN.out.hd]; decide))
    have V3 := RA.out.mv m3 (fun k e => by unfold Pr at e; rw [e, IN.out.hd]; decide)
    have MID := Lib.hid (And.intro H3 (And.intro S3 (And.intro M3 V3)))
    clear H3 S3 M3 V3 m3 RA AK2
    go_cut [155] (fun s155 wx => s155 = .bool false ∧ ∃ c4, Mv (· = (4, 0, 0)) w3 c3 wx c4)
    case first =>
      have H3 := MID.out.1
      obtain ⟨Y, HY⟩ := MID.out.2.1

      have hqa : ∀ (b : Bool), st.ask.isSome = true → Y.qs = askN st ∧ Y.qn = askS st := by
        intro _ hq
        cases ha : st.ask with
        | none => rw [ha] at hq; cases hq
        | some p =>
          obtain ⟨s, n⟩ := p
          have := HY.ask s n ha
          unfold askN askS
          rw [ha]
          exact this
      have KS : Hid (∀ p i, ¬ (fun k : Key => k = (4, 0, 0)) (g.sd, p, i)) := Lib.hid (fun p i e => by have := congrArg (fun k : Key => k.1) e; simp only [IN.out.gd] at this; exact absurd this (by decide))
      have SZ : Hid (st.ns.length ≤ 1000000000 ∧ ∀ n ∈ st.ns, n.attrs.length ≤ 1000000000 ∧ n.kids.length ≤ 1000000000) := Lib.hid ⟨by have := IN.out.wf.sz.1; have := IN.out.hN; omega, fun n hn => by
        obtain ⟨i, hi, e⟩ := List.getElem_of_mem hn
        have := IN.out.wf.sz.2.2 i n (by rw [List.getElem?_eq_getElem hi, e])
        have := IN.out.hN
        omega⟩
      have MO : Hid (∀ n, Calls Tryz.prog 33 #[.pointer (some ⟨h.b, 0, none⟩)] (w3.drewN n) fun e w' => e = .returned (.int .i64 st.mode) ∧ w' = w3.drewN n) := Lib.hid fun n => (bMode (st := { st with ask := none }) (H3.loc (bdrewN w3 n))).mono fun e w' h => ⟨h.1, h.2.symm⟩
      have BA : Hid (∀ n, Calls Tryz.prog 34 #[.pointer (some ⟨h.b, 0, none⟩)] (w3.drewN n) fun e w' => e = .returned (.int .i64 st.back) ∧ w' = w3.drewN n) := Lib.hid fun n => (bBack (st := { st with ask := none }) (H3.loc (bdrewN w3 n))).mono fun e w' h => ⟨h.1, h.2.symm⟩
      have HE : Hid (∀ n, Calls Tryz.prog 36 #[.pointer (some ⟨h.b, 0, none⟩)] (w3.drewN n) fun e w' => e = .returned (.int .i64 st.head) ∧ w' = w3.drewN n) := Lib.hid fun n => (bHead (st := { st with ask := none }) (H3.loc (bdrewN w3 n))).mono fun e w' h => ⟨h.1, h.2.symm⟩
      have FO : Hid (∀ n, Calls Tryz.prog 37 #[.pointer (some ⟨h.b, 0, none⟩)] (w3.drewN n) fun e w' => e = .returned (.int .i64 st.form) ∧ w' = w3.drewN n) := Lib.hid fun n => (bForm (st := { st with ask := none }) (H3.loc (bdrewN w3 n))).mono fun e w' h => ⟨h.1, h.2.symm⟩
      have QU : Hid (∀ n, Calls Tryz.prog 38 #[.pointer (some ⟨h.b, 0, none⟩)] (w3.drewN n) fun e w' => e = .returned (.bool st.quirks) ∧ w' = w3.drewN n) := Lib.hid fun n => (bQuirks (st := { st with ask := none }) (H3.loc (bdrewN w3 n))).mono fun e w' h => ⟨h.1, h.2.symm⟩
      have PE : Hid (∀ n, Calls Tryz.prog 39 #[.pointer (some ⟨h.b, 0, none⟩)] (w3.drewN n) fun e w' => e = .returned (.string st.pending) ∧ w' = w3.drewN n) := Lib.hid fun n => (bPending (st := { st with ask := none }) (H3.loc (bdrewN w3 n))).mono fun e w' h => ⟨h.1, h.2.symm⟩
      have SK : Hid (∀ n, Calls Tryz.prog 31 #[.pointer (some ⟨h.b, 0, none⟩)] (w3.drewN n) fun e w' => e = .returned (.pointer (some ⟨h.s, 0, none⟩)) ∧ w' = w3.drewN n) := Lib.hid fun n => (bStack (st := { st with ask := none }) (H3.loc (bdrewN w3 n))).mono fun e w' h => ⟨h.1, h.2.symm⟩
      have FM : Hid (∀ n, Calls Tryz.prog 32 #[.pointer (some ⟨h.b, 0, none⟩)] (w3.drewN n) fun e w' => e = .returned (.pointer (some ⟨h.l, 0, none⟩)) ∧ w' = w3.drewN n) := Lib.hid fun n => (bFormats (st := { st with ask := none }) (H3.loc (bdrewN w3 n))).mono fun e w' h => ⟨h.1, h.2.symm⟩
      have AR : Hid (∀ n, Calls Tryz.prog 30 #[.pointer (some ⟨h.b, 0, none⟩)] (w3.drewN n) fun e w' => e = .returned (.pointer (some ⟨h.a, 0, none⟩)) ∧ w' = w3.drewN n) := Lib.hid fun n => (bArena (st := { st with ask := none }) (H3.loc (bdrewN w3 n))).mono fun e w' h => ⟨h.1, h.2.symm⟩
      have SL : Hid (∀ n, Calls Tryz.prog 77 #[.pointer (some ⟨h.s, 0, none⟩)] (w3.drewN n) fun e w' => e = .returned (.int .i64 st.stk.length) ∧ w' = w3.drewN n) := Lib.hid (fun n => by
        obtain ⟨x, hx⟩ := H3.loc (bdrewN w3 n)
        exact (sLen (hx.sv (by show st.stk.length ≤ _; have := IN.out.stk; omega))).mono fun e w' h => ⟨h.1, h.2.symm⟩)
      have FL : Hid (∀ n, Calls Tryz.prog 70 #[.pointer (some ⟨h.l, 0, none⟩)] (w3.drewN n) fun e w' => e = .returned (.int .i64 st.fmt.length) ∧ w' = w3.drewN n) := Lib.hid (fun n => by
        obtain ⟨x, hx⟩ := H3.loc (bdrewN w3 n)
        exact (fLen (hx.fv (by show st.fmt.length ≤ _; have := IN.out.fmt; omega))).mono fun e w' h => ⟨h.1, h.2.symm⟩)
      have TR : Hid (∀ n, Calls Tryz.prog 53 #[.pointer (some ⟨h.a, 0, none⟩)] (w3.drewN n) (TreeQ (4, 0, 0) st.ns (w3.drewN n) c3)) := Lib.hid fun n => aTreeR (st := { st with ask := none }) (H3.loc (bdrewN w3 n)) (N := N) IN.out.wf.sz (by have := IN.out.hN; omega) (by rw [IN.out.hd]; decide) (by decide)
      have HYH := Lib.hid (fun (W : World) (hb : Below w3.heap.size w3 W) => HY.kp (fun p i => kp_below hb) ((Mv.of_below (S := fun _ => False) hb).gd HY.gd))
      clear H3 HY
      have KC : Hid (∀ W C, SRepX W C g Y st → SameC g Y st false Y.qs Y.qn W) := Lib.hid (fun W C hY => by
        have := hY.bc
        rw [hq] at this
        obtain ⟨k0, k1, k2, k3, k4, k5, k6, k7, k8, -, -, k11, k12, k13, k14, -⟩ := this
        rw [hY.nlen] at k0
        exact ⟨k0, k1, k2, k3, k4, k5, k6, k7, k8, k11, k12, k13, k14⟩)
      obtain ⟨y0, y1, y2, y3, y4, y5, y6, y7, y8, y11, y12, y13, y14⟩ := KC.out _ _ (HYH.out _ (Below.refl _ _))
      clear hqa hq
      dsimp only [List.append]
      refine wp_region_pre 111 34 (by kernel_rfl) (pre7_of (by kernel_rfl)) ?_
      simp only [List.take_succ_cons, List.take_zero]
      apply wpQuiet_cut 14
      · simp only [List.take_succ_cons, List.take_zero]
        repeat (go_big_quiet_step (first | (go_at_call 33; exact Calls.quiet_of_same (MO.out _)) | (go_at_call 34; exact Calls.quiet_of_same (BA.out _)) | (go_at_call 36; exact Calls.quiet_of_same (HE.out _)) | (go_at_call 37; exact Calls.quiet_of_same (FO.out _)) | (go_at_call 38; exact Calls.quiet_of_same (QU.out _)) | (go_at_call 39; exact Calls.quiet_of_same (PE.out _)) | (go_at_call 31; exact Calls.quiet_of_same (SK.out _)) | (go_at_call 77; exact Calls.quiet_of_same (SL.out _)) | (go_at_call 32; exact Calls.quiet_of_same (FM.out _)) | (go_at_call 70; exact Calls.quiet_of_same (FL.out _)) | (go_at_call 30; exact Calls.quiet_of_same (AR.out _))))
        exact wpQuiet_nil rfl
      simp only [List.drop_succ_cons, List.drop_zero]
      apply wpQuiet_cut 14
      · simp only [List.take_succ_cons, List.take_zero]
        repeat (go_big_quiet_step (first | (go_at_call 33; exact Calls.quiet_of_same (MO.out _)) | (go_at_call 34; exact Calls.quiet_of_same (BA.out _)) | (go_at_call 36; exact Calls.quiet_of_same (HE.out _)) | (go_at_call 37; exact Calls.quiet_of_same (FO.out _)) | (go_at_call 38; exact Calls.quiet_of_same (QU.out _)) | (go_at_call 39; exact Calls.quiet_of_same (PE.out _)) | (go_at_call 31; exact Calls.quiet_of_same (SK.out _)) | (go_at_call 77; exact Calls.quiet_of_same (SL.out _)) | (go_at_call 32; exact Calls.quiet_of_same (FM.out _)) | (go_at_call 70; exact Calls.quiet_of_same (FL.out _)) | (go_at_call 30; exact Calls.quiet_of_same (AR.out _))))
        exact wpQuiet_nil rfl
      simp only [List.drop_succ_cons, List.drop_zero]
      apply wpQuiet_cut 14
      · simp only [List.take_succ_cons, List.take_zero]
        repeat (go_big_quiet_step (first | (go_at_call 33; exact Calls.quiet_of_same (MO.out _)) | (go_at_call 34; exact Calls.quiet_of_same (BA.out _)) | (go_at_call 36; exact Calls.quiet_of_same (HE.out _)) | (go_at_call 37; exact Calls.quiet_of_same (FO.out _)) | (go_at_call 38; exact Calls.quiet_of_same (QU.out _)) | (go_at_call 39; exact Calls.quiet_of_same (PE.out _)) | (go_at_call 31; exact Calls.quiet_of_same (SK.out _)) | (go_at_call 77; exact Calls.quiet_of_same (SL.out _)) | (go_at_call 32; exact Calls.quiet_of_same (FM.out _)) | (go_at_call 70; exact Calls.quiet_of_same (FL.out _)) | (go_at_call 30; exact Calls.quiet_of_same (AR.out _))))
        exact wpQuiet_nil rfl
      simp only [List.drop_succ_cons, List.drop_zero]
      apply wpQuiet_cut 14
      · simp only [List.take_succ_cons, List.take_zero]
        repeat (go_big_quiet_step (first | (go_at_call 33; exact Calls.quiet_of_same (MO.out _)) | (go_at_call 34; exact Calls.quiet_of_same (BA.out _)) | (go_at_call 36; exact Calls.quiet_of_same (HE.out _)) | (go_at_call 37; exact Calls.quiet_of_same (FO.out _)) | (go_at_call 38; exact Calls.quiet_of_same (QU.out _)) | (go_at_call 39; exact Calls.quiet_of_same (PE.out _)) | (go_at_call 31; exact Calls.quiet_of_same (SK.out _)) | (go_at_call 77; exact Calls.quiet_of_same (SL.out _)) | (go_at_call 32; exact Calls.quiet_of_same (FM.out _)) | (go_at_call 70; exact Calls.quiet_of_same (FL.out _)) | (go_at_call 30; exact Calls.quiet_of_same (AR.out _))))
        exact wpQuiet_nil rfl
      simp only [List.drop_succ_cons, List.drop_zero]
      apply wpQuiet_cut 14
      · simp only [List.take_succ_cons, List.take_zero]
        repeat (go_big_quiet_step (first | (go_at_call 33; exact Calls.quiet_of_same (MO.out _)) | (go_at_call 34; exact Calls.quiet_of_same (BA.out _)) | (go_at_call 36; exact Calls.quiet_of_same (HE.out _)) | (go_at_call 37; exact Calls.quiet_of_same (FO.out _)) | (go_at_call 38; exact Calls.quiet_of_same (QU.out _)) | (go_at_call 39; exact Calls.quiet_of_same (PE.out _)) | (go_at_call 31; exact Calls.quiet_of_same (SK.out _)) | (go_at_call 77; exact Calls.quiet_of_same (SL.out _)) | (go_at_call 32; exact Calls.quiet_of_same (FM.out _)) | (go_at_call 70; exact Calls.quiet_of_same (FL.out _)) | (go_at_call 30; exact Calls.quiet_of_same (AR.out _))))
        exact wpQuiet_nil rfl
      simp only [List.drop_succ_cons, List.drop_zero]
      apply wpQuiet_cut 14
      · simp only [List.take_succ_cons, List.take_zero]
        repeat (go_big_quiet_step (first | (go_at_call 33; exact Calls.quiet_of_same (MO.out _)) | (go_at_call 34; exact Calls.quiet_of_same (BA.out _)) | (go_at_call 36; exact Calls.quiet_of_same (HE.out _)) | (go_at_call 37; exact Calls.quiet_of_same (FO.out _)) | (go_at_call 38; exact Calls.quiet_of_same (QU.out _)) | (go_at_call 39; exact Calls.quiet_of_same (PE.out _)) | (go_at_call 31; exact Calls.quiet_of_same (SK.out _)) | (go_at_call 77; exact Calls.quiet_of_same (SL.out _)) | (go_at_call 32; exact Calls.quiet_of_same (FM.out _)) | (go_at_call 70; exact Calls.quiet_of_same (FL.out _)) | (go_at_call 30; exact Calls.quiet_of_same (AR.out _))))
        exact wpQuiet_nil rfl
      simp only [List.drop_succ_cons, List.drop_zero]
      apply wpQuiet_cut 14
      · simp only [List.take_succ_cons, List.take_zero]
        repeat (go_big_quiet_step (first | (go_at_call 33; exact Calls.quiet_of_same (MO.out _)) | (go_at_call 34; exact Calls.quiet_of_same (BA.out _)) | (go_at_call 36; exact Calls.quiet_of_same (HE.out _)) | (go_at_call 37; exact Calls.quiet_of_same (FO.out _)) | (go_at_call 38; exact Calls.quiet_of_same (QU.out _)) | (go_at_call 39; exact Calls.quiet_of_same (PE.out _)) | (go_at_call 31; exact Calls.quiet_of_same (SK.out _)) | (go_at_call 77; exact Calls.quiet_of_same (SL.out _)) | (go_at_call 32; exact Calls.quiet_of_same (FM.out _)) | (go_at_call 70; exact Calls.quiet_of_same (FL.out _)) | (go_at_call 30; exact Calls.quiet_of_same (AR.out _))))
        exact wpQuiet_nil rfl
      simp only [List.drop_succ_cons, List.drop_zero]
      repeat (go_big_quiet_step (first | (go_at_call 33; exact Calls.quiet_of_same (MO.out _)) | (go_at_call 34; exact Calls.quiet_of_same (BA.out _)) | (go_at_call 36; exact Calls.quiet_of_same (HE.out _)) | (go_at_call 37; exact Calls.quiet_of_same (FO.out _)) | (go_at_call 38; exact Calls.quiet_of_same (QU.out _)) | (go_at_call 39; exact Calls.quiet_of_same (PE.out _)) | (go_at_call 31; exact Calls.quiet_of_same (SK.out _)) | (go_at_call 77; exact Calls.quiet_of_same (SL.out _)) | (go_at_call 32; exact Calls.quiet_of_same (FM.out _)) | (go_at_call 70; exact Calls.quiet_of_same (FL.out _)) | (go_at_call 30; exact Calls.quiet_of_same (AR.out _))))
      refine wpQuiet_nil ?_
      intro _ hw'
      obtain ⟨nq, hw''⟩ := hw'
      subst hw''
      refine wpAny_cast (by kernel_rfl) (by kernel_rfl) ?_
      have hc0 : (w3.drewN nq).cell? ⟨g.g, 0, none⟩ = some (.slice Y.nA st.ns.length Y.ncap) := by
        have := (HYH.out _ (bdrewN w3 nq)).bc.1
        rwa [(HYH.out _ (bdrewN w3 nq)).nlen] at this
      refine tail7 (p := h.b) (q := g.g) (r := h.a) (by kernel_rfl) rfl rfl rfl rfl hc0 (fun _ _ d _ _ h => by cases d <;> exact h) (AR.out nq) ?_
      refine (TR.out nq).mono ?_
      rintro e w4 ⟨A4, cp4, c4, rfl, T4, m4⟩
      have HY4 := (HYH.out _ (bdrewN w3 nq)).kp (fun p i => m4.kp (KS.out p i)) (m4.gd (HYH.out _ (bdrewN w3 nq)).gd)
      have q4 : ∀ W, Below w4.heap.size w4 W → W.cell? ⟨g.g, 0, none⟩ = some (.slice Y.nA st.ns.length Y.ncap) := fun W hb => by
        have := (HY4.loc hb).bc.1
        rwa [HY4.nlen] at this
      refine ⟨_, rfl, q4 _ (Below.refl _ _), (lNodes w4 st.ns A4 cp4 Y.nA Y.ncap SZ.out.1 SZ.out.2 T4 HY4.treeR).mono ?_⟩
      rintro e w5 ⟨rfl, hb5⟩
      refine ⟨rfl, q4 _ hb5, ?_⟩
      have FIN := Lib.hid ((Mv.of_below (bdrewN w3 nq)).trans (m4.below hb5))
      clear q4 HY4 T4 m4 hc0
      unfold tailAct
      simp only [Act.put, List.setIfInBounds_toArray, List.set_cons_zero, List.set_cons_succ]
      go_wp2_with fail
      go_meet
      case rel => exact ⟨rfl, c4, FIN.out⟩
    case rest =>
      obtain ⟨rfl, c4, m4⟩ := hcut
      have KH : ∀ p i, ¬ (fun k : Key => k = (4, 0, 0)) (h.sd, p, i) := fun p i e => by have := congrArg (fun k : Key => k.1) e; simp only [IN.out.hd] at this; exact absurd this (by decide)
      have KS : ∀ p i, ¬ (fun k : Key => k = (4, 0, 0)) (g.sd, p, i) := fun p i e => by have := congrArg (fun k : Key => k.1) e; simp only [IN.out.gd] at this; exact absurd this (by decide)
      have HB4 := MID.out.1.mv m4 KH
      obtain ⟨Z, HZ⟩ := MID.out.2.1.mv m4 KS
      have VZ := MID.out.2.2.2.mv m4 (fun k e => by rw [e]; decide)
      have MZ : Mv Own w c wc c4 := MID.out.2.2.1.trans (m4.mono (T := Own) (fun k e => by rw [e]; unfold Own; decide))
      have z12 := HZ.bc.2.2.2.2.2.2.2.2.2.2.2.2.1
      have f12 := HZ.hb.frozen 12
      have zl := HZ.hb.lt
      obtain ⟨S1, S2⟩ := HZ.setS (x' := Z) (st' := { st with ask := none }) 12 (.bool false) rfl rfl rfl rfl rfl (fun s n e => by cases e) rfl
      have KB : ∀ p i, ¬ PrS g (h.sd, p, i) := fun p i e => by unfold PrS at e; rw [IN.out.hd, IN.out.gd] at e; cases e
      have HBB := HB4.mv S2 KB
      have VV := (VZ.mv S2 (fun k e => by unfold PrS at e; rw [e, IN.out.gd]; decide)).rAt
      have MM := MZ.trans (S2.mono (T := Own) (fun k e => by unfold PrS at e; unfold Own; rw [e, IN.out.gd]; decide))
      obtain ⟨wz, hwz⟩ : ∃ wz, wz = wc.setCell ⟨g.g, 12, none⟩ (.bool false) := ⟨_, rfl⟩
      rw [← hwz] at S1 HBB VV MM
      have END : Hid (SRepX wz c4 g Z { st with ask := none } ∧ BRep wz c4 h { st with ask := none } ∧ RAt wz A (intCells st.modes) ∧ Mv Own w c wz c4) := Lib.hid ⟨S1, HBB, VV, MM⟩
      have HWZ := Lib.hid hwz
      have K5 : Hid (∀ W, Below wz.heap.size wz W → W.cell? ⟨g.g, 5, none⟩ = some (.slice Z.mA st.modes.length Z.mcap) ∧ W.cell? ⟨g.g, 1, none⟩ = some (.slice Z.oA st.stk.length Z.ocap) ∧ W.cell? ⟨g.g, 2, none⟩ = some (.slice Z.lA st.fmt.length Z.lcap)) := Lib.hid fun W hW => by
        obtain ⟨-, q1, q2, -, -, q5, -⟩ := (END.out.1.loc hW).bc
        exact ⟨q5, q1, q2⟩
      have hz1 := IN.out.modes
      have hz2 := IN.out.stk
      have hz3 := IN.out.fmt
      have SKQ : Hid (∀ W, Below wz.heap.size wz W → Calls Tryz.prog 31 #[.pointer (some ⟨h.b, 0, none⟩)] W fun e w' => e = .returned (.pointer (some ⟨h.s, 0, none⟩)) ∧ W = w') := Lib.hid fun W hW => bStack (END.out.2.1.loc hW)
      have FMQ : Hid (∀ W, Below wz.heap.size wz W → Calls Tryz.prog 32 #[.pointer (some ⟨h.b, 0, none⟩)] W fun e w' => e = .returned (.pointer (some ⟨h.l, 0, none⟩)) ∧ W = w') := Lib.hid fun W hW => bFormats (END.out.2.1.loc hW)
      have ATQ : Hid (∀ W, Below wz.heap.size wz W → ∀ (k : Nat) (o : OpE), st.stk[k]? = some o → Calls Tryz.prog 79 #[.pointer (some ⟨h.s, 0, none⟩), .int .i64 k] W fun e w' => e = .returned (.int .i64 o.node) ∧ W = w') := Lib.hid fun W hW k o ho => by
        obtain ⟨x, hx⟩ := END.out.2.1.loc hW
        have := sAt (hx.sv (by show st.stk.length ≤ _; omega)) (k : Int)
        rw [show atOf ({ st with ask := none } : St).stk (k : Int) = o.node by unfold atOf; rw [if_pos (by omega), Int.toNat_natCast]; show (match st.stk[k]? with | some o => o.node | none => -1) = _; rw [ho]] at this
        exact this
      have LAQ : Hid (∀ W, Below wz.heap.size wz W → ∀ (k : Nat) (n : Int), st.fmt[k]? = some n → Calls Tryz.prog 62 #[.pointer (some ⟨h.l, 0, none⟩), .int .i64 k] W fun e w' => e = .returned (.tuple #[.int .i64 n, .bool (n == -1)]) ∧ ∃ m, w' = W.drewN m) := Lib.hid fun W hW k n hn => by
        obtain ⟨x, hx⟩ := END.out.2.1.loc hW
        exact fAt (hx.fv (by show st.fmt.length ≤ _; omega)) hn
      clear hwz MID
      go_wp2_with fail
      go_loopw [9] (fun a wr => ∃ k : Nat, k ≤ st.modes.length ∧ a = .int .i64 k ∧ Hid (Below wz.heap.size wz wr)) (fun a _ => st.modes.length - (intOf a).toNat)
      case atStart => exact ⟨0, Nat.zero_le _, rfl, Lib.hid (by rw [HWZ.out]; exact Below.refl _ _)⟩
      case round =>
        obtain ⟨k, hk, rfl, hR⟩ := hrel
        obtain ⟨wo, rfl⟩ : ∃ wo : World, wo = wr := ⟨_, rfl⟩
        clear z12 f12 zl
        obtain ⟨q5, q1, q2⟩ := K5.out wo hR.out
        by_cases hlt : k < st.modes.length
        · have g2 : (k : Int) < (st.modes.length : Int) := by omega
          have g3 : (0 : Int) ≤ (k : Int) := by omega
          obtain ⟨x, hx⟩ : ∃ x, st.modes[k]? = some x := ⟨_, List.getElem?_eq_getElem hlt⟩
          have e1 : (intCells st.modes)[k]? = some (.int .i64 x) := by unfold intCells; rw [List.getElem?_map, hx]; rfl
          have hne : intCells st.modes ≠ [] := fun e => by rw [e] at e1; simp at e1
          obtain ⟨ga, rfl, -, ra⟩ := (END.out.2.2.1.loc hR.out) hne
          obtain ⟨gb, eb, -, rb⟩ := ((END.out.1.loc hR.out).modes.rAt) hne
          have u1 := ra _ _ e1
          have v1 := rb _ _ e1
          rw [eb] at q5
          have hw : IntKind.i64.wrap ((k : Int) + 1) = (k : Int) + 1 := by have := wrap_small (L := k + 1) (by omega); rwa [show (((k + 1 : Nat) : Int)) = (k : Int) + 1 by omega] at this
          clear ra rb e1 hx hne eb q1 q2
          go_wp2_with fail
          go_quiet (fail)
          go_wp2_with fail
          go_roundw
          case rel => exact ⟨k + 1, by omega, by rfl, Lib.hid (below_step hR.out (bdrewN _ _))⟩
          case measure => simp [intOf]; omega
        · obtain rfl : k = st.modes.length := by omega
          have g2 : ¬ (st.modes.length : Int) < (st.modes.length : Int) := by omega
          have R1 := hR
          clear q5 q1 q2
          go_wp2_with fail
          go_loopw [10] (fun a wr => ∃ k : Nat, k ≤ st.stk.length ∧ a = .int .i64 k ∧ Hid (Below wz.heap.size wz wr)) (fun a _ => st.stk.length - (intOf a).toNat)
          case atStart => exact ⟨0, Nat.zero_le _, rfl, R1⟩
          case round =>
            obtain ⟨k, hk, rfl, hR⟩ := hrel
            obtain ⟨wp, rfl⟩ : ∃ wp : World, wp = wr := ⟨_, rfl⟩
            obtain ⟨q5, q1, q2⟩ := K5.out wp hR.out
            clear g2
            by_cases hlt : k < st.stk.length
            · have g2 : (k : Int) < (st.stk.length : Int) := by omega
              have g3 : (0 : Int) ≤ (k : Int) := by omega
              obtain ⟨o, ho⟩ : ∃ o, st.stk[k]? = some o := ⟨_, List.getElem?_eq_getElem hlt⟩
              have e1 : (intCells (opens st.stk))[k]? = some (.int .i64 o.node) := by unfold intCells opens; simp [ho]
              have hne : intCells (opens st.stk) ≠ [] := fun e => by rw [e] at e1; simp at e1
              obtain ⟨gb, eb, -, rb⟩ := ((END.out.1.loc hR.out).opn.rAt) hne
              have v1 := rb _ _ e1
              rw [eb] at q1
              have AT1 := Lib.hid (fun (n : Nat) => ATQ.out _ (below_step hR.out (bdrewN wp n)) k o ho)
              have SK1 := Lib.hid (fun (n : Nat) => SKQ.out _ (below_step hR.out (bdrewN wp n)))
              have hw : IntKind.i64.wrap ((k : Int) + 1) = (k : Int) + 1 := by have := wrap_small (L := k + 1) (by omega); rwa [show (((k + 1 : Nat) : Int)) = (k : Int) + 1 by omega] at this
              clear rb e1 ho hne eb q5 q2
              go_wp2_with fail
              go_quiet (first
                | (go_at_call 31; exact Calls.quiet_of_same ((SK1.out _).mono fun e w' h => ⟨h.1, h.2.symm⟩))
                | (go_at_call 79; exact Calls.quiet_of_same ((AT1.out _).mono fun e w' h => ⟨h.1, h.2.symm⟩)))
              go_wp2_with fail
              go_roundw
              case rel => exact ⟨k + 1, by omega, by rfl, Lib.hid (below_step hR.out (bdrewN _ _))⟩
              case measure => simp [intOf]; omega
            · obtain rfl : k = st.stk.length := by omega
              have g2 : ¬ (st.stk.length : Int) < (st.stk.length : Int) := by omega
              have R2 := hR
              clear q5 q2
              go_wp2_with fail
              go_loopw [11] (fun a wr => ∃ k : Nat, k ≤ st.fmt.length ∧ a = .int .i64 k ∧ Hid (Below wz.heap.size wz wr)) (fun a _ => st.fmt.length - (intOf a).toNat)
              case atStart => exact ⟨0, Nat.zero_le _, rfl, R2⟩
              case round =>
                obtain ⟨k, hk, rfl, hR⟩ := hrel
                obtain ⟨wq, rfl⟩ : ∃ wq : World, wq = wr := ⟨_, rfl⟩
                clear q1 g2
                obtain ⟨q5, q1, q2⟩ := K5.out wq hR.out
                by_cases hlt : k < st.fmt.length
                · have g2 : (k : Int) < (st.fmt.length : Int) := by omega
                  have g3 : (0 : Int) ≤ (k : Int) := by omega
                  obtain ⟨n, hn⟩ : ∃ n, st.fmt[k]? = some n := ⟨_, List.getElem?_eq_getElem hlt⟩
                  obtain ⟨e1, e2⟩ := ent_at hn
                  have hne : entCells st.fmt ≠ [] := fun e => by rw [e] at e1; simp at e1
                  obtain ⟨gb, eb, hgb, rb⟩ := ((END.out.1.loc hR.out).lst.rAt) hne
                  have v1 := rb _ _ e1
                  have v2 := rb _ _ e2
                  rw [eb] at q2
                  have LA1 := Lib.hid (LAQ.out _ hR.out k n hn)
                  have FM1 := Lib.hid (FMQ.out _ hR.out)
                  have hw : IntKind.i64.wrap ((k : Int) + 1) = (k : Int) + 1 := by have := wrap_small (L := k + 1) (by omega); rwa [show (((k + 1 : Nat) : Int)) = (k : Int) + 1 by omega] at this
                  clear rb e1 e2 hn hne eb q5 q1
                  cases hm : (n == -1)
                  all_goals
                    rw [hm] at v1 LA1
                    clear hm
                    go_wp2_with (first
                      | (go_at_call 32; refine FM1.out.mono ?_; rintro e w7 ⟨rfl, rfl⟩)
                      | (go_at_call 62; refine LA1.out.mono ?_; rintro e w7 ⟨rfl, m7, rfl⟩))
                    go_roundw
                    case rel => exact ⟨k + 1, by omega, by rfl, Lib.hid (below_step hR.out (bdrewN _ _))⟩
                    case measure => simp [intOf]; omega
                · obtain rfl : k = st.fmt.length := by omega
                  have g2 : ¬ (st.fmt.length : Int) < (st.fmt.length : Int) := by omega
                  clear q5 q1
                  go_wp2_with fail
                  go_ret
                  exact ⟨rfl, c4, END.out.2.1.loc hR.out, (show SRep wz c4 g { st with ask := none } from ⟨Z, END.out.1⟩).loc hR.out, END.out.2.2.2.trans (Mv.of_below hR.out)⟩
end Go.Proofs.YtjmlkmlbhfkhbaaGreatDoor
