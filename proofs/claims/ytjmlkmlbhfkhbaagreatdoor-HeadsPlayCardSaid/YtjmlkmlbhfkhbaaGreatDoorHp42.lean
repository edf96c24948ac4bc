/-
  The law's begins (49).
  The law's begins (49), walked.
-/
import Derived.Test.YtjmlkmlbhfkhbaaGreatDoorHp30
import Derived.Test.YtjmlkmlbhfkhbaaGreatDoorHp34
import Derived.Test.YtjmlkmlbhfkhbaaGreatDoorHp11
import Derived.Test.YtjmlkmlbhfkhbaaGreatDoorHp12
import Derived.Test.YtjmlkmlbhfkhbaaGreatDoorHp41
import Derived.Test.YtjmlkmlbhfkhbaaGreatDoorHp14
set_option linter.unusedSimpArgs false
set_option linter.unusedVariables false
namespace Go.Proofs.YtjmlkmlbhfkhbaaGreatDoor
open Go Go.RowKit

/-- What is neither nobody's nor a side's. -/
def Ot (s : Nat) : Key → Prop := fun k => k.1 ≠ s ∧ k.1 ≠ 0
theorem Ot.ne {s : Nat} : ∀ k, Ot s k → k.1 ≠ 0 := fun _ h => h.2
theorem Mv.ot {h : Hd} {s : Nat} {w w' : World} {c c' : Col} (hs : h.sd ≠ s) (h0 : h.sd ≠ 0) (hm : Mv (Pr h) w c w' c') : Mv (Ot s) w c w' c' :=
  hm.mono fun k e => by unfold Pr at e; unfold Ot; rw [e]; exact ⟨hs, h0⟩
theorem BRep.ot {w w' : World} {c c' : Col} {h : Hd} {st : St} {s : Nat} (H : BRep w c h st) (hs : h.sd = s) (hm : Mv (Ot s) w c w' c') : BRep w' c' h st :=
  H.mv hm fun p i e => e.1 hs

/-- The laid tables and numbers. -/
structure Laid (w : World) (c : Col) : Prop where
  by_ : ByOk w c
  steps : StepsOk w c
  mlen : MLen w c
theorem Laid.mv {S : Key → Prop} {w w' : World} {c c' : Col} (H : Laid w c) (hm : Mv S w c w' c') (hS : ∀ k, S k → k.1 ≠ 0) : Laid w' c' := ⟨H.by_.mv hm hS, H.steps.mv hm hS, H.mlen.mv hm hS⟩

theorem TkOk.of_sm {w : World} {c : Col} {t : Tok} (h : TkSm t) (e1 : t.aA = none) (e2 : t.attrs = []) : TkOk w c t :=
  ⟨h.name, h.text, h.attrs, by rw [e1, e2]; exact ⟨fun _ => rfl, fun _ e => by cases e⟩⟩

theorem bDoes {w : World} {c : Col} {h : Hd} {st st' : St} (H : BRep w c h st) {N : Nat} (inv : Inv N st) (hN : N ≤ 8900000) (L : Laid w c) {t : Tok} (ht : TkSm t) (e1 : t.aA = none) (e2 : t.attrs = []) (hst : doesM 20 st t = st') :
    Calls Tryz.prog 52 #[.pointer (some ⟨h.b, 0, none⟩), t.val] w (OkB h st' (.tuple #[]) w c) := by
  subst hst
  exact lDoes H inv hN L.steps t (.of_sm ht e1 e2)

theorem c4_call {w : World} {c : Col} {h : Hd} (H : BRep w c h cC3) (L : Laid w c) : Calls Tryz.prog 90 #[.pointer (some ⟨h.b, 0, none⟩), (tagTok 3 nTemplate).val] w (fun e w' => ∃ b, e = .returned (.bool b) ∧ ∃ c', BRep w' c' h cC4 ∧ Mv (Pr h) w c w' c') := by
  obtain ⟨l, n, h1, h2⟩ := fC3t
  have hs : cC3.stk.length ≤ 100 := by rw [fC3.2.2.2]; decide
  refine (hHead H iC3.wf (by omega) hs (by rw [fC3.2.1]; decide) (by rw [fC3.2.2.1]; decide) (tagTok 3 nTemplate) (.of_sm (sm_tag (by decide)) rfl rfl) (fun _ => ?_) (fun hh => ?_)).mono ?_
  · exact lv_of H.sd iC3.wf (by omega) hs h1 fC3.2.1 (by rw [fC3.2.2.1]; decide) (L := 0) (by rw [fC3.2.2.1]; rfl) L.by_ L.mlen (names_ok fC3n)
  · exact absurd hh (by decide +kernel)
  · rintro e w' ⟨rfl, c', H', m'⟩
    exact ⟨_, rfl, c', H', m'⟩
end Go.Proofs.YtjmlkmlbhfkhbaaGreatDoor
namespace Go.Proofs.YtjmlkmlbhfkhbaaGreatDoor
open Go Go.RowKit

theorem fld7 (n : Nd) (A : Option Addr) (c1 : Nat) (K : Option Addr) (c2 : Nat) (W : World) : (Instr.field 58 (ndVal n A c1 K c2) 7).run Tryz.prog W = .ok (.int .i64 n.content) W := by
  kernel_rfl

/-- The three builders, done. -/
structure Three (w : World) (c : Col) (ha hb hc : Hd) (w' : World) (c' : Col) : Prop where
  a : BRep w' c' ha cA
  b : BRep w' c' hb cB5
  c_ : BRep w' c' hc cC4
  m : Mv Own w c w' c'

set_option maxRecDepth 100000 in
set_option maxHeartbeats 16000000 in
theorem begins49 {w : World} {c : Col} (hg : Good w c) (L : Laid w c) :
    Calls Tryz.prog 49 #[] w fun e w' => e = .returned (.bool true) ∧ ∃ c', Mv Own w c w' c' := by
  have NEW : Hid (∀ (sd : Nat) (W : World) (C : Col), sd ≠ 0 → Mv Own w c W C → Calls Tryz.prog 50 #[] W fun e w' => ∃ c' h, h.sd = sd ∧ e = .returned (.pointer (some ⟨h.b, 0, none⟩)) ∧ BRep w' c' h st0 ∧ Mv (fun _ => False) W C w' c') := Lib.hid fun sd W C h0 hm =>
    bNew (hm.gd hg) (sd := sd) h0
  have LD : Hid (∀ (W : World) (C : Col), Mv Own w c W C → Laid W C) := Lib.hid fun W C hm => L.mv hm fun _ h => h
  clear hg L
  go_enter Tryz.func49, Tryz.ntmps49
  go_wp2_with fail
  -- the first
  refine (NEW.out 1 w c (by decide) (Mv.refl _ _ _)).mono ?_
  rintro e w1 ⟨c1, ha, hsa, rfl, H1, n1⟩
  have m1 : Mv Own w c w1 c1 := n1.mono fun _ h => h.elim
  go_wp2_with fail
  refine (bDoes (st' := cA) H1 inv0 (by omega) (LD.out _ _ m1) (sm_tag (by decide)) rfl rfl rfl).mono ?_
  rintro e w2 ⟨rfl, c2, HA, n2⟩
  have m2 := m1.trans (n2.own (by rw [hsa]; decide))
  clear H1 n1 m1 n2
  go_wp2_with fail
  have a2 : Mv (Ot 1) w2 c2 w2 c2 := Mv.refl _ _ _
  refine (NEW.out 2 w2 c2 (by decide) m2).mono ?_
  rintro e w3 ⟨c3, hb, hsb, rfl, H3, n3⟩
  have a3 := a2.trans (n3.mono fun _ h => h.elim)
  have m3 := m2.trans (n3.mono fun _ h => h.elim)
  clear n3 m2 a2
  go_wp2_with fail
  refine (bDoes (st' := cB1) H3 inv0 (by omega) (LD.out _ _ m3) (sm_tag (by decide)) rfl rfl rfl).mono ?_
  rintro e w4 ⟨rfl, c4, H4, n4⟩
  have a4 := a3.trans (n4.ot (s := 1) (by rw [hsb]; decide) (by rw [hsb]; decide))
  have m4 := m3.trans (n4.own (by rw [hsb]; decide))
  clear H3 n4 m3 a3
  go_wp2_with fail
  refine (bDoes (st' := cB2) H4 iB1 (by omega) (LD.out _ _ m4) sm_cm rfl rfl rfl).mono ?_
  rintro e w5 ⟨rfl, c5, H5, n5⟩
  have a5 := a4.trans (n5.ot (s := 1) (by rw [hsb]; decide) (by rw [hsb]; decide))
  have m5 := m4.trans (n5.own (by rw [hsb]; decide))
  clear H4 n5 m4 a4
  go_wp2_with fail
  refine (tStart _ mHtml).mono ?_
  rintro e w6 ⟨rfl, hb6⟩
  have H6 := H5.loc hb6
  have a6 := a5.trans (Mv.of_below (S := Ot 1) (c := c5) hb6)
  have m6 := m5.trans (Mv.of_below (S := Own) (c := c5) hb6)
  clear H5 hb6 m5 a5
  obtain ⟨c6, hc6⟩ : ∃ x, x = c5 := ⟨_, rfl⟩
  rw [← hc6] at H6 a6 m6
  clear hc6
  unfold tagTok Tok.val Tok.cells
  go_wp2_with fail
  refine (bDoes (st' := cB3) H6 iB2 (by omega) (LD.out _ _ m6) (sm_tag (by decide)) rfl rfl rfl).mono ?_
  rintro e w7 ⟨rfl, c7, H7, n7⟩
  have a7 := a6.trans (n7.ot (s := 1) (by rw [hsb]; decide) (by rw [hsb]; decide))
  have m7 := m6.trans (n7.own (by rw [hsb]; decide))
  clear H6 n7 m6 a6
  go_wp2_with fail
  refine (tStart _ nTitle).mono ?_
  rintro e w8 ⟨rfl, hb8⟩
  have H8 := H7.loc hb8
  have a8 := a7.trans (Mv.of_below (S := Ot 1) (c := c7) hb8)
  have m8 := m7.trans (Mv.of_below (S := Own) (c := c7) hb8)
  clear H7 hb8 m7 a7
  obtain ⟨c8, hc8⟩ : ∃ x, x = c7 := ⟨_, rfl⟩
  rw [← hc8] at H8 a8 m8
  clear hc8
  unfold tagTok Tok.val Tok.cells
  go_wp2_with fail
  refine (bDoes (st' := cB4) H8 iB3 (by omega) (LD.out _ _ m8) (sm_tag (by decide)) rfl rfl rfl).mono ?_
  rintro e w9 ⟨rfl, c9, H9, n9⟩
  have a9 := a8.trans (n9.ot (s := 1) (by rw [hsb]; decide) (by rw [hsb]; decide))
  have m9 := m8.trans (n9.own (by rw [hsb]; decide))
  clear H8 n9 m8 a8
  go_wp2_with fail
  refine (bAsk H9 fBask).mono ?_
  rintro e w10 ⟨rfl, c10, HB, n10⟩
  have a10 := a9.trans (n10.ot (s := 1) (by rw [hsb]; decide) (by rw [hsb]; decide))
  have m10 := m9.trans (n10.own (by rw [hsb]; decide))
  clear H9 n10 m9 a9
  have b10 : Mv (Ot 2) w10 c10 w10 c10 := Mv.refl _ _ _
  go_wp2_with fail
  refine (NEW.out 3 w10 c10 (by decide) m10).mono ?_
  rintro e w11 ⟨c11, hc, hsc, rfl, H11, n11⟩
  have a11 := a10.trans (n11.mono fun _ h => h.elim)
  have b11 := b10.trans (n11.mono fun _ h => h.elim)
  have m11 := m10.trans (n11.mono fun _ h => h.elim)
  clear n11 m10 a10 b10
  go_wp2_with fail
  refine (tStart _ mHtml).mono ?_
  rintro e w12 ⟨rfl, hb12⟩
  have H12 := H11.loc hb12
  have a12 := a11.trans (Mv.of_below (S := Ot 1) (c := c11) hb12)
  have b12 := b11.trans (Mv.of_below (S := Ot 2) (c := c11) hb12)
  have m12 := m11.trans (Mv.of_below (S := Own) (c := c11) hb12)
  clear H11 hb12 m11 a11 b11
  obtain ⟨c12, hc12⟩ : ∃ x, x = c11 := ⟨_, rfl⟩
  rw [← hc12] at H12 a12 m12 b12
  clear hc12
  unfold tagTok Tok.val Tok.cells
  go_wp2_with fail
  refine (bDoes (st' := cC1) H12 inv0 (by omega) (LD.out _ _ m12) (sm_tag (by decide)) rfl rfl rfl).mono ?_
  rintro e w13 ⟨rfl, c13, H13, n13⟩
  have a13 := a12.trans (n13.ot (s := 1) (by rw [hsc]; decide) (by rw [hsc]; decide))
  have b13 := b12.trans (n13.ot (s := 2) (by rw [hsc]; decide) (by rw [hsc]; decide))
  have m13 := m12.trans (n13.own (by rw [hsc]; decide))
  clear H12 n13 m12 a12 b12
  go_wp2_with fail
  refine (tStart _ mHead).mono ?_
  rintro e w14 ⟨rfl, hb14⟩
  have H14 := H13.loc hb14
  have a14 := a13.trans (Mv.of_below (S := Ot 1) (c := c13) hb14)
  have b14 := b13.trans (Mv.of_below (S := Ot 2) (c := c13) hb14)
  have m14 := m13.trans (Mv.of_below (S := Own) (c := c13) hb14)
  clear H13 hb14 m13 a13 b13
  obtain ⟨c14, hc14⟩ : ∃ x, x = c13 := ⟨_, rfl⟩
  rw [← hc14] at H14 a14 m14 b14
  clear hc14
  unfold tagTok Tok.val Tok.cells
  go_wp2_with fail
  refine (bDoes (st' := cC2) H14 iC1 (by omega) (LD.out _ _ m14) (sm_tag (by decide)) rfl rfl rfl).mono ?_
  rintro e w15 ⟨rfl, c15, H15, n15⟩
  have a15 := a14.trans (n15.ot (s := 1) (by rw [hsc]; decide) (by rw [hsc]; decide))
  have b15 := b14.trans (n15.ot (s := 2) (by rw [hsc]; decide) (by rw [hsc]; decide))
  have m15 := m14.trans (n15.own (by rw [hsc]; decide))
  clear H14 n15 m14 a14 b14
  go_wp2_with fail
  refine (tStart _ nTemplate).mono ?_
  rintro e w16 ⟨rfl, hb16⟩
  have H16 := H15.loc hb16
  have a16 := a15.trans (Mv.of_below (S := Ot 1) (c := c15) hb16)
  have b16 := b15.trans (Mv.of_below (S := Ot 2) (c := c15) hb16)
  have m16 := m15.trans (Mv.of_below (S := Own) (c := c15) hb16)
  clear H15 hb16 m15 a15 b15
  obtain ⟨c16, hc16⟩ : ∃ x, x = c15 := ⟨_, rfl⟩
  rw [← hc16] at H16 a16 m16 b16
  clear hc16
  unfold tagTok Tok.val Tok.cells
  go_wp2_with fail
  refine (bDoes (st' := cC3) H16 iC2 (by omega) (LD.out _ _ m16) (sm_tag (by decide)) rfl rfl rfl).mono ?_
  rintro e w17 ⟨rfl, c17, H17, n17⟩
  have a17 := a16.trans (n17.ot (s := 1) (by rw [hsc]; decide) (by rw [hsc]; decide))
  have b17 := b16.trans (n17.ot (s := 2) (by rw [hsc]; decide) (by rw [hsc]; decide))
  have m17 := m16.trans (n17.own (by rw [hsc]; decide))
  clear H16 n17 m16 a16 b16
  go_wp2_with fail
  have MC := Lib.hid (bMode H17)
  rw [fC3.1] at MC
  go_wp2_with (go_at_call 33; refine MC.out.mono ?_; rintro e w18 ⟨rfl, rfl⟩)
  refine (tEnd _ nTemplate).mono ?_
  rintro e w18 ⟨rfl, hb18⟩
  have H18 := H17.loc hb18
  have a18 := a17.trans (Mv.of_below (S := Ot 1) (c := c17) hb18)
  have b18 := b17.trans (Mv.of_below (S := Ot 2) (c := c17) hb18)
  have m18 := m17.trans (Mv.of_below (S := Own) (c := c17) hb18)
  clear H17 hb18 m17 a17 b17 MC
  unfold tagTok Tok.val Tok.cells
  go_wp2_with fail
  refine (c4_call H18 (LD.out _ _ m18)).mono ?_
  rintro e w19 ⟨bb, rfl, c19, HC, n19⟩
  have a19 := a18.trans (n19.ot (s := 1) (by rw [hsc]; decide) (by rw [hsc]; decide))
  have b19 := b18.trans (n19.ot (s := 2) (by rw [hsc]; decide) (by rw [hsc]; decide))
  have m19 := m18.trans (n19.own (by rw [hsc]; decide))
  have HB' : BRep w19 c19 hb cB5 := HB.ot hsb b19
  have FA := fA
  have FB := fB
  have FB0 := fB0
  have FB2 := fB2
  have FC4 := fC4
  have FC43 := fC43
  have ZC := szC4
  have ZB : Sz 80241 cB5 := iB4.wf.sz
  clear HB
  generalize cA = sA at HA FA
  generalize cB5 = sB at HB' FB FB0 FB2 ZB
  generalize cC4 = sC at HC FC4 FC43 ZC
  have AR := Lib.hid (bArena HB')
  clear H18 n19 m18 a18 b18
  go_wp2_with (go_at_call 30; refine AR.out.mono ?_; rintro e w20 ⟨rfl, rfl⟩)
  refine (aTree (st := sB) HB' ZB (by omega) (key := (4, 0, 0)) (by rw [hsb]; decide) (by decide)).mono ?_
  rintro e w20 ⟨A, cap, c20, rfl, TR, n20⟩
  have HAf := HA.ot hsa (a19.trans (n20.mono (fun k e => by rw [e]; exact ⟨by decide, by decide⟩)))
  have HBf : BRep w20 c20 hb sB := HB'.ot hsb (n20.mono (T := Ot 2) (fun k e => by rw [e]; exact ⟨by decide, by decide⟩))
  have HCf : BRep w20 c20 hc sC := HC.mv n20 (fun p i e => by have := congrArg (fun k : Key => k.1) e; simp only [hsc] at this; exact absurd this (by decide))
  have m20 := m19.trans (n20.mono (T := Own) (fun k e => by rw [e]; unfold Own; decide))
  obtain ⟨n0, h0, k0⟩ := some_of_map FB0
  obtain ⟨n2, h2, k2⟩ := some_of_map FB2
  obtain ⟨n3, h3, k3⟩ := some_of_map FC43
  obtain ⟨g, x0, rfl, e0, q0, K0⟩ := TR.node h0
  obtain ⟨g', x2, eg, e2, q2, -⟩ := TR.node h2
  obtain rfl : g = g' := by simpa using eg
  have t08 := q0 8 (by decide)
  have t20 := q2 0 (by decide)
  simp only [NdC.cells, e0, e2, k0, k2, List.getElem?_cons_succ, List.getElem?_cons_zero, List.length_cons, List.length_nil, Nat.zero_mul, Nat.zero_add, Nat.add_zero, Nat.reduceMul, Nat.reduceAdd] at t08 t20
  rw [k0] at K0
  obtain ⟨gk, eK, -, ck⟩ := K0 (by decide)
  have ck1 := ck 1 2 rfl
  rw [eK] at t08
  have k3' : (n3.content == 4) = true := by rw [k3]; rfl
  rw [FB.2.2]
  have QA := Lib.hid (bQuirks HAf)
  have MA := Lib.hid (bMode HAf)
  have SA := Lib.hid (bStack HAf)
  have LA := Lib.hid (sLen (HAf.choose_spec.sv (by rw [FA.2.2]; decide)))
  have QB := Lib.hid (bQuirks HBf)
  have MB := Lib.hid (bMode HBf)
  have MC := Lib.hid (bMode HCf)
  have RC := Lib.hid (bArena HCf)
  have NC := Lib.hid (aNodeB HCf ZC (by omega) (i := 3) h3)
  rw [FA.1] at QA
  rw [FA.2.1] at MA
  rw [FA.2.2] at LA
  rw [FB.1] at QB
  rw [FB.2.1] at MB
  rw [FC4.1] at MC
  have M20 := Lib.hid m20
  clear HAf HBf HCf HA HB' HC a19 b19 m19 m20 n20 TR q0 q2 K0 ck AR h0 h2 h3 k0 k2 k3 e0 e2 eg hsa hsb hsc eK NEW LD
  go_wp2_with fail
  refine QA.out.mono ?_
  rintro e w21 ⟨rfl, rfl⟩
  go_wp2_with fail
  refine MA.out.mono ?_
  rintro e w21 ⟨rfl, rfl⟩
  go_wp2_with fail
  refine SA.out.mono ?_
  rintro e w21 ⟨rfl, rfl⟩
  go_wp2_with fail
  refine LA.out.mono ?_
  rintro e w21 ⟨rfl, rfl⟩
  go_wp2_with fail
  refine QB.out.mono ?_
  rintro e w21 ⟨rfl, rfl⟩
  go_wp2_with fail
  refine MB.out.mono ?_
  rintro e w21 ⟨rfl, rfl⟩
  go_wp2_with fail
  refine MC.out.mono ?_
  rintro e w21 ⟨rfl, rfl⟩
  go_wp2_with fail
  refine RC.out.mono ?_
  rintro e w21 ⟨rfl, rfl⟩
  go_wp2_with fail
  refine NC.out.mono ?_
  rintro e w21 ⟨A3, p3, K3, p4, rfl, hb21, -, -⟩
  have fl := fun W => fld7 n3 A3 p3 K3 p4 W
  unfold ndVal at *
  go_wp2_with fail
  go_ret
  exact ⟨rfl, c20, M20.out.trans (Mv.of_below hb21)⟩
end Go.Proofs.YtjmlkmlbhfkhbaaGreatDoor
