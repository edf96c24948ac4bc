/-
  The reference's Chars (145).
  The reference's token questions: Starts (104), Ends (105), strange (144), Belongs (59).
  The reference's strange (144), Belongs (59), Chars (151).
-/
import Derived.Test.YtjmlkmlbhfkhbaaGreatDoorHp23
import Derived.Test.YtjmlkmlbhfkhbaaGreatDoorHp16
import Derived.BigQuiet
set_option linter.unusedSimpArgs false
set_option linter.unusedVariables false
namespace Go.Proofs.YtjmlkmlbhfkhbaaGreatDoor
open Go Go.RowKit

set_option maxRecDepth 100000 in
set_option maxHeartbeats 8000000 in
theorem rChars {w : World} {c : Col} {h : Sd} {st : St} (H : SRep w c h st) {N : Nat} (wf : Wf N st) (hN : N ≤ 900000) (hl : st.stk.length ≤ 1000) (s : Str) (hs : s.size ≤ 1000) :
    Calls Tryz.prog 145 #[.pointer (some ⟨h.g, 0, none⟩), .string s] w (OkS h (chM st s) (.tuple #[]) w c) := by
  obtain ⟨n, t1, t2, t3⟩ := wf.tgt
  obtain ⟨np, p1, p2, p3⟩ := wf.place t1 t3
  have HE := Lib.hid (rHere H (by omega))
  rw [t2] at HE
  have PL := Lib.hid (fun (W : World) (hb : Below w.heap.size w W) => rPlace (H.loc hb) wf.nf t1)
  rw [p2] at PL
  have EQ : Hid (chM st s = if plIx st.ns (tgtIx st) = 0 then st else { st with ns := textN st.ns (plIx st.ns (tgtIx st)) s }) := Lib.hid rfl
  clear t1 t2 t3 p2 p3 n
  generalize plIx st.ns (tgtIx st) = p at *
  have hpl : p < st.ns.length := (List.getElem?_eq_some_iff.1 p1).1
  have AL := Lib.hid (fun (W : World) (hb : Below w.heap.size w W) => (rAddLay (H.loc hb) wf hN (txtC s) rfl rfl (by exact hs) hpl))
  have HL := Lib.hid (fun (W : World) (hb : Below w.heap.size w W) => H.loc hb)
  have WF := Lib.hid wf
  have P1 := Lib.hid p1
  clear H wf p1
  by_cases hp0 : p = 0
  · have hp0' : ((p : Int) == 0) = true := by simp [hp0]
    have E2 : Hid (chM st s = st) := Lib.hid (EQ.out.trans (if_pos hp0))
    clear EQ hp0
    go_enter Tryz.func145, Tryz.ntmps145
    go_wp2_with fail
    refine HE.out.mono ?_
    rintro e w1 ⟨rfl, hb1⟩
    go_wp2_with fail
    refine (PL.out _ hb1).mono ?_
    rintro e w2 ⟨rfl, rfl⟩
    go_wp2_with fail
    refine bodyPost_ret (results_none rfl _ _ _) rfl ?_
    rw [E2.out]
    exact ⟨rfl, c, HL.out _ hb1, Mv.of_below hb1⟩
  · have hp0' : ((p : Int) == 0) = false := beq_eq_false_iff_ne.2 (by omega)
    by_cases he : eqS s ⟨#[]⟩ = true
    · have he' : (s.toList == []) = true := by rw [← toList_mk []]; exact he
      have E2 : Hid (chM st s = st) := Lib.hid ((EQ.out.trans (if_neg hp0)).trans (by unfold textN; rw [he]; rfl))
      clear EQ hp0 he
      go_enter Tryz.func145, Tryz.ntmps145
      go_wp2_with fail
      refine HE.out.mono ?_
      rintro e w1 ⟨rfl, hb1⟩
      go_wp2_with fail
      refine (PL.out _ hb1).mono ?_
      rintro e w2 ⟨rfl, rfl⟩
      go_wp2_with fail
      refine bodyPost_ret (results_none rfl _ _ _) rfl ?_
      rw [E2.out]
      exact ⟨rfl, c, HL.out _ hb1, Mv.of_below hb1⟩
    · have he0 : eqS s ⟨#[]⟩ = false := by simpa using he
      have he' : (s.toList == []) = false := by rw [← toList_mk []]; exact he0
      have HE0 := Lib.hid he0
      have EQ2 : Hid (chM st s = { st with ns := textN st.ns p s }) := Lib.hid (EQ.out.trans (if_neg hp0))
      clear EQ hp0 he he0
      go_enter Tryz.func145, Tryz.ntmps145
      go_wp2_with fail
      refine HE.out.mono ?_
      rintro e w1 ⟨rfl, hb1⟩
      go_wp2_with fail
      refine (PL.out _ hb1).mono ?_
      rintro e w2 ⟨rfl, rfl⟩
      obtain ⟨X, HX⟩ := HL.out _ hb1
      have nl := HX.nlen
      obtain ⟨b0, -⟩ := HX.bc
      obtain ⟨gn, y, hA, hy, e1, hlt, hgl, qq, qf⟩ := HX.node P1.out
      have t8 := qq 8 (by decide)
      simp only [NdC.cells, List.getElem?_cons_succ, List.getElem?_cons_zero] at t8
      rw [e1] at t8
      rw [hA] at b0
      have i0 : (0 : Int) ≤ (p : Int) := by omega
      have i1 : (p : Int) < (X.cs.length : Int) := by omega
      have KR := Lib.hid (HX.each p y hy).1
      have XX := Lib.hid HX
      have HA := Lib.hid (And.intro hA (And.intro hy e1))
      have HB1 := Lib.hid hb1
      have HNL := Lib.hid nl
      have hkl := (WF.out.sz.2.2 p np P1.out).2.1
      have hgl2 := HX.hb.lt
      clear HX nl hA hy e1 qq hb1
      go_wp2_with fail
      go_loop [6, 7] (fun a t => ∃ (k : Nat) (v : Int), t = .int .i64 k ∧ a = .int .i64 v ∧ k ≤ np.kids.length ∧ Hid ((k = 0 ∧ v = -1) ∨ (0 < k ∧ np.kids[k - 1]? = some v))) (fun _ t => np.kids.length - (intOf t).toNat)
      case atStart => exact ⟨0, -1, rfl, rfl, Nat.zero_le _, Lib.hid (.inl ⟨rfl, rfl⟩)⟩
      case round =>
        obtain ⟨k, v, rfl, rfl, hk, hR⟩ := hrel
        by_cases hlt2 : k < np.kids.length
        · have g2 : (k : Int) < (np.kids.length : Int) := by omega
          have g3 : (0 : Int) ≤ (k : Int) := by omega
          obtain ⟨x, hx⟩ : ∃ x, np.kids[k]? = some x := ⟨_, List.getElem?_eq_getElem hlt2⟩
          have hx0 := (WF.out.kid p np P1.out x (List.mem_of_getElem? hx)).1
          have hne : (x == (-1 : Int)) = false := beq_eq_false_iff_ne.2 (by omega)
          obtain ⟨gk, eK, -, hgk, ck, -⟩ := KR.out.at_ (by rw [HA.out.2.2]; omega)
          have ckx := ck k (.int .i64 x) (by rw [HA.out.2.2]; unfold intCells; rw [List.getElem?_map, hx]; rfl)
          have hw : IntKind.i64.wrap ((k : Int) + 1) = (k : Int) + 1 := by have := wrap_small (L := k + 1) (by omega); rwa [show (((k + 1 : Nat) : Int)) = (k : Int) + 1 by omega] at this
          rw [eK] at t8
          have HX := Lib.hid hx
          clear hx eK hgk ck hx0
          go_wp2_with fail
          go_round
          case rel => exact ⟨k + 1, x, by rfl, rfl, by omega, Lib.hid (.inr ⟨by omega, by simpa using HX.out⟩)⟩
          case measure => simp [intOf]; omega
        · obtain rfl : k = np.kids.length := by omega
          have g2 : ¬ (np.kids.length : Int) < (np.kids.length : Int) := by omega
          have AD := Lib.hid (AL.out _ HB1.out)
          have eC : (txtC s).val = .agg #[.int .i64 4, .string ⟨#[]⟩, .string s, .int .i64 0, .slice none 0 0, .bool false, .int .i64 0, .int .i64 0, .slice none 0 0, .int .i64 (-1), .int .i64 (-1)] := rfl
          rw [eC] at AD
          clear eC AL
          rcases hR.out with ⟨h0, rfl⟩ | ⟨h0, hv⟩
          · have hq : Hid (textN st.ns p s = hangN (addN st.ns (txtNd s)) p st.ns.length) := Lib.hid (by
              unfold textN
              have : np.kids[np.kids.length - 1]? = none := List.getElem?_eq_none (by omega)
              rw [HE0.out, P1.out]
              simp only [this]
              rfl)
            clear hR h0
            go_wp2_with fail
            refine AD.out.mono ?_
            rintro e w2 ⟨rfl, c2, H2, m2, LY⟩
            have LYH := Lib.hid (LY _ (Below.refl _ _))
            clear LY H2
            go_wp2_with fail
            refine LYH.out.mono ?_
            rintro e w3 ⟨rfl, c3, H3, m3⟩
            go_wp2_with fail
            rw [EQ2.out, hq.out]
            go_end0
            exact ⟨rfl, c3, H3, (Mv.of_below HB1.out).trans m3⟩
          · have hv0 := WF.out.kid p np P1.out v (List.mem_of_getElem? hv)
            obtain ⟨j, rfl⟩ : ∃ j : Nat, v = (j : Int) := ⟨v.toNat, by omega⟩
            obtain ⟨nl, hnl⟩ : ∃ nl, st.ns[j]? = some nl := ⟨_, List.getElem?_eq_getElem (by omega)⟩
            obtain ⟨gj, yl, hAj, hyl, rfl, hjl, -, qj, qjf⟩ := XX.out.node hnl
            obtain rfl : gn = gj := by have := HA.out.1.symm.trans hAj; simpa using this
            have l0 := qj 0 (by decide)
            have l2 := qj 2 (by decide)
            simp only [NdC.cells, List.getElem?_cons_succ, List.getElem?_cons_zero, Nat.add_zero] at l0 l2
            have f2 := qjf (j * 11 + 2)
            have j0 : (0 : Int) ≤ (j : Int) := by omega
            have j1 : (j : Int) < (X.cs.length : Int) := by omega
            have tsz := (WF.out.sz.2.2 j yl.nd hnl).2.2
            have HV := Lib.hid (And.intro hv hnl)
            have HYL := Lib.hid (And.intro hAj hyl)
            clear hR hv hnl hAj hyl qj qjf hv0
            by_cases h4 : yl.nd.kind = 4
            · have hq : Hid (textN st.ns p s = st.ns.set j { yl.nd with text := yl.nd.text ++ s }) := Lib.hid (by
                unfold textN
                rw [HE0.out, P1.out]
                simp only [HV.out.1, Int.toNat_natCast, HV.out.2, if_pos h4]
                rfl)
              have h4' : (yl.nd.kind == 4) = true := by simp [h4]
              have hmx2 : ¬ (9223372036854775807 < yl.nd.text.size + s.size) := by omega
              have hmx : yl.nd.text.size + s.size ≤ maxLen := by unfold maxLen; omega
              obtain ⟨N1, N2⟩ := sNode XX.out (i := j) (j := 2) (y' := { yl with nd := { yl.nd with text := yl.nd.text ++ s } }) (v := .string (yl.nd.text ++ s)) HYL.out.1 HYL.out.2 (by decide) rfl ⟨rfl, rfl, rfl⟩ ⟨rfl, rfl, rfl⟩
              have FIN := Lib.hid (And.intro N1 N2)
              clear h4 N1 N2
              go_wp2_with fail
              go_region_law (fail)
              all_goals
                go_wp2_with fail
                rw [EQ2.out, hq.out]
                go_end0
                exact ⟨rfl, c, (show SRep _ c h _ from ⟨_, FIN.out.1⟩).loc (below_drew (Below.refl _ _)), (Mv.of_below HB1.out).trans FIN.out.2.drew⟩
            · have hq : Hid (textN st.ns p s = hangN (addN st.ns (txtNd s)) p st.ns.length) := Lib.hid (by
                unfold textN
                rw [HE0.out, P1.out]
                simp only [HV.out.1, Int.toNat_natCast, HV.out.2, if_neg h4]
                rfl)
              have h4' : (yl.nd.kind == 4) = false := by simp [h4]
              clear h4
              go_wp2_with fail
              refine AD.out.mono ?_
              rintro e w2 ⟨rfl, c2, H2, m2, LY⟩
              have LYH := Lib.hid (LY _ (Below.refl _ _))
              clear LY H2
              go_wp2_with fail
              refine LYH.out.mono ?_
              rintro e w3 ⟨rfl, c3, H3, m3⟩
              go_wp2_with fail
              rw [EQ2.out, hq.out]
              go_end0
              exact ⟨rfl, c3, H3, (Mv.of_below HB1.out).trans m3⟩
end Go.Proofs.YtjmlkmlbhfkhbaaGreatDoor
namespace Go.Proofs.YtjmlkmlbhfkhbaaGreatDoor
open Go Go.RowKit

theorem inS_take {ns : List Str} {s : Str} {k : Nat} {x : Str} (hx : ns[k]? = some x) : inS (ns.take (k + 1)) s = (inS (ns.take k) s || eqS s x) := by
  unfold inS
  rw [List.take_add_one, hx]
  simp
theorem inS_mono {ns : List Str} {s : Str} {k : Nat} (h : inS (ns.take k) s = true) : inS ns s = true := by
  unfold inS at *
  rw [List.any_eq_true] at *
  obtain ⟨x, hx, h2⟩ := h
  exact ⟨x, List.mem_of_mem_take hx, h2⟩

set_option maxRecDepth 100000 in
set_option maxHeartbeats 2000000 in
theorem rStarts (w : World) (t : Tok) (g cap : Nat) (ns : List Str) (hlen : ns.length ≤ 1000) (hs : Strs w g ns) :
    Calls Tryz.prog 104 #[t.val, .slice (some ⟨g, 0, none⟩) ns.length cap] w fun e w' => e = .returned (.bool (startB t ns)) ∧ Below w.heap.size w w' := by
  have hb0 : Below w.heap.size w (w.alloc (.cells t.cells.toArray 24)) := below_alloc (Below.refl _ _) _
  have KEY := Lib.hid (fun (W : World) (hW : Below (w.alloc (.cells t.cells.toArray 24)).heap.size (w.alloc (.cells t.cells.toArray 24)) W) => And.intro ((HB.new w 24 t.cells).below hW).tok ((hs.alloc (.cells t.cells.toArray 24)).below hW))
  have HB0 := Lib.hid hb0
  clear hs hb0
  unfold Tok.val
  unfold Tok.cells at *
  go_enter Tryz.func104, Tryz.ntmps104
  go_wp2_with fail
  go_loopw [5] (fun a wr => ∃ k : Nat, k ≤ ns.length ∧ a = .int .i64 k ∧ Hid (Below (w.alloc (.cells #[.int .i64 t.kind, .string t.name, .string t.text, .slice t.aA t.attrs.length t.acap, .bool t.dup, .bool t.self, .bool t.quirks, .int .i64 t.frm, .int .i64 t.to_] 24)).heap.size (w.alloc (.cells #[.int .i64 t.kind, .string t.name, .string t.text, .slice t.aA t.attrs.length t.acap, .bool t.dup, .bool t.self, .bool t.quirks, .int .i64 t.frm, .int .i64 t.to_] 24)) wr ∧ (startB t (ns.take k)) = false)) (fun a _ => ns.length - (intOf a).toNat)
  case atStart => exact ⟨0, Nat.zero_le _, rfl, Lib.hid ⟨Below.refl _ _, by unfold startB inS; simp⟩⟩
  case round =>
    obtain ⟨k, hk, rfl, hR⟩ := hrel
    have hWr : Below (w.alloc (.cells t.cells.toArray 24)).heap.size (w.alloc (.cells t.cells.toArray 24)) wr := hR.out.1
    obtain ⟨T0, S0⟩ := KEY.out wr hWr
    obtain ⟨b0, b1, -⟩ := T0
    have HW := Lib.hid hWr
    clear hWr
    by_cases hlt : k < ns.length
    · have g2 : (k : Int) < (ns.length : Int) := by omega
      have g3 : (0 : Int) ≤ (k : Int) := by omega
      obtain ⟨x, hx⟩ : ∃ x, ns[k]? = some x := ⟨_, List.getElem?_eq_getElem hlt⟩
      have cx := S0 k x hx
      have HX := Lib.hid hx
      have hw : IntKind.i64.wrap ((k : Int) + 1) = (k : Int) + 1 := by have := wrap_small (L := k + 1) (by omega); rwa [show (((k + 1 : Nat) : Int)) = (k : Int) + 1 by omega] at this
      clear hx S0
      by_cases k2 : t.kind = 2
      · have k2' : (t.kind == 2) = true := by simp [k2]
        cases hq : (t.name.toList == x.toList)
        · have E : Hid (startB t (ns.take (k + 1)) = false) := Lib.hid (by
            have := hR.out.2
            unfold startB at *
            rw [inS_take HX.out]
            rw [show eqS t.name x = false from hq, Bool.or_false]
            exact this)
          have hqq := hq
          clear k2
          go_wp2_with fail
          go_quiet (fail)
          go_wp2_with fail
          go_roundw
          case rel =>
            exact ⟨k + 1, by omega, by rfl, Lib.hid ⟨below_step hR.out.1 (bdrewN _ _), E.out⟩⟩
          case measure => simp [intOf]; omega
        · have E : Hid (startB t ns = true) := Lib.hid (by
            unfold startB
            rw [decide_eq_true k2, Bool.true_and]
            refine inS_mono (k := k + 1) ?_
            rw [inS_take HX.out, show eqS t.name x = true from hq, Bool.or_true])
          clear k2
          go_wp2_with fail
          go_quiet (fail)
          go_wp2_with fail
          go_ret
          rw [E.out]
          exact ⟨rfl, below_step HB0.out (below_step hR.out.1 (bdrewN _ _))⟩
      · have k2' : (t.kind == 2) = false := by simp [k2]
        have E : Hid (startB t (ns.take (k + 1)) = false) := Lib.hid (by unfold startB; simp [k2])
        clear k2
        go_wp2_with fail
        go_quiet (fail)
        go_wp2_with fail
        go_roundw
        case rel => exact ⟨k + 1, by omega, by rfl, Lib.hid ⟨below_step hR.out.1 (bdrewN _ _), E.out⟩⟩
        case measure => simp [intOf]; omega
    · have g2 : ¬ (k : Int) < (ns.length : Int) := by omega
      have E : Hid (startB t ns = false) := Lib.hid (by have := hR.out.2; rwa [List.take_of_length_le (by omega)] at this)
      go_wp2_with fail
      go_ret
      rw [E.out]
      exact ⟨rfl, below_step HB0.out hR.out.1⟩
set_option maxRecDepth 100000 in
set_option maxHeartbeats 2000000 in
theorem rEnds (w : World) (t : Tok) (g cap : Nat) (ns : List Str) (hlen : ns.length ≤ 1000) (hs : Strs w g ns) :
    Calls Tryz.prog 105 #[t.val, .slice (some ⟨g, 0, none⟩) ns.length cap] w fun e w' => e = .returned (.bool (endB t ns)) ∧ Below w.heap.size w w' := by
  have hb0 : Below w.heap.size w (w.alloc (.cells t.cells.toArray 24)) := below_alloc (Below.refl _ _) _
  have KEY := Lib.hid (fun (W : World) (hW : Below (w.alloc (.cells t.cells.toArray 24)).heap.size (w.alloc (.cells t.cells.toArray 24)) W) => And.intro ((HB.new w 24 t.cells).below hW).tok ((hs.alloc (.cells t.cells.toArray 24)).below hW))
  have HB0 := Lib.hid hb0
  clear hs hb0
  unfold Tok.val
  unfold Tok.cells at *
  go_enter Tryz.func105, Tryz.ntmps105
  go_wp2_with fail
  go_loopw [5] (fun a wr => ∃ k : Nat, k ≤ ns.length ∧ a = .int .i64 k ∧ Hid (Below (w.alloc (.cells #[.int .i64 t.kind, .string t.name, .string t.text, .slice t.aA t.attrs.length t.acap, .bool t.dup, .bool t.self, .bool t.quirks, .int .i64 t.frm, .int .i64 t.to_] 24)).heap.size (w.alloc (.cells #[.int .i64 t.kind, .string t.name, .string t.text, .slice t.aA t.attrs.length t.acap, .bool t.dup, .bool t.self, .bool t.quirks, .int .i64 t.frm, .int .i64 t.to_] 24)) wr ∧ (endB t (ns.take k)) = false)) (fun a _ => ns.length - (intOf a).toNat)
  case atStart => exact ⟨0, Nat.zero_le _, rfl, Lib.hid ⟨Below.refl _ _, by unfold endB inS; simp⟩⟩
  case round =>
    obtain ⟨k, hk, rfl, hR⟩ := hrel
    have hWr : Below (w.alloc (.cells t.cells.toArray 24)).heap.size (w.alloc (.cells t.cells.toArray 24)) wr := hR.out.1
    obtain ⟨T0, S0⟩ := KEY.out wr hWr
    obtain ⟨b0, b1, -⟩ := T0
    have HW := Lib.hid hWr
    clear hWr
    by_cases hlt : k < ns.length
    · have g2 : (k : Int) < (ns.length : Int) := by omega
      have g3 : (0 : Int) ≤ (k : Int) := by omega
      obtain ⟨x, hx⟩ : ∃ x, ns[k]? = some x := ⟨_, List.getElem?_eq_getElem hlt⟩
      have cx := S0 k x hx
      have HX := Lib.hid hx
      have hw : IntKind.i64.wrap ((k : Int) + 1) = (k : Int) + 1 := by have := wrap_small (L := k + 1) (by omega); rwa [show (((k + 1 : Nat) : Int)) = (k : Int) + 1 by omega] at this
      clear hx S0
      by_cases k2 : t.kind = 3
      · have k2' : (t.kind == 3) = true := by simp [k2]
        cases hq : (t.name.toList == x.toList)
        · have E : Hid (endB t (ns.take (k + 1)) = false) := Lib.hid (by
            have := hR.out.2
            unfold endB at *
            rw [inS_take HX.out]
            rw [show eqS t.name x = false from hq, Bool.or_false]
            exact this)
          have hqq := hq
          clear k2
          go_wp2_with fail
          go_quiet (fail)
          go_wp2_with fail
          go_roundw
          case rel =>
            exact ⟨k + 1, by omega, by rfl, Lib.hid ⟨below_step hR.out.1 (bdrewN _ _), E.out⟩⟩
          case measure => simp [intOf]; omega
        · have E : Hid (endB t ns = true) := Lib.hid (by
            unfold endB
            rw [decide_eq_true k2, Bool.true_and]
            refine inS_mono (k := k + 1) ?_
            rw [inS_take HX.out, show eqS t.name x = true from hq, Bool.or_true])
          clear k2
          go_wp2_with fail
          go_quiet (fail)
          go_wp2_with fail
          go_ret
          rw [E.out]
          exact ⟨rfl, below_step HB0.out (below_step hR.out.1 (bdrewN _ _))⟩
      · have k2' : (t.kind == 3) = false := by simp [k2]
        have E : Hid (endB t (ns.take (k + 1)) = false) := Lib.hid (by unfold endB; simp [k2])
        clear k2
        go_wp2_with fail
        go_quiet (fail)
        go_wp2_with fail
        go_roundw
        case rel => exact ⟨k + 1, by omega, by rfl, Lib.hid ⟨below_step hR.out.1 (bdrewN _ _), E.out⟩⟩
        case measure => simp [intOf]; omega
    · have g2 : ¬ (k : Int) < (ns.length : Int) := by omega
      have E : Hid (endB t ns = false) := Lib.hid (by have := hR.out.2; rwa [List.take_of_length_le (by omega)] at this)
      go_wp2_with fail
      go_ret
      rw [E.out]
      exact ⟨rfl, below_step HB0.out hR.out.1⟩
end Go.Proofs.YtjmlkmlbhfkhbaaGreatDoor
namespace Go.Proofs.YtjmlkmlbhfkhbaaGreatDoor
open Go Go.RowKit

abbrev strNames : List Str := [⟨#[104, 101, 97, 100]⟩, ⟨#[98, 111, 100, 121]⟩, ⟨#[104, 116, 109, 108]⟩, ⟨#[98, 114]⟩]
set_option maxHeartbeats 400000 in
theorem rStrange (w : World) (t : Tok) :
    Calls Tryz.prog 144 #[t.val] w fun e w' => e = .returned (.bool (strangeB t)) ∧ Below w.heap.size w w' := by
  have B0 := HB.new w 24 t.cells
  by_cases hk : t.kind = 3
  · have hk' : (t.kind == 3) = true := by simp [hk]
    have E : Hid (strangeB t = !endB t strNames) := Lib.hid (by unfold strangeB endB; simp [hk])
    clear hk
    unfold Tok.val
    unfold Tok.cells at *
    obtain ⟨b0, b1, b2, b3, b4, b5, b6, b7, b8⟩ := B0.tok
    go_enter Tryz.func144, Tryz.ntmps144
    go_wp2_with fail
    refine Calls.mono (rEnds _ t _ 4 strNames (by decide) (by exact Strs.mk_ _ (by simp))) ?_
    rintro e w1 ⟨rfl, hb1⟩
    cases hq : endB t strNames
    all_goals
      rw [hq] at E
      clear hq
      go_wp2_with fail
      go_ret
      exact ⟨ret_bool E.out.symm, below_step (below_alloc (below_alloc (Below.refl _ _) _) _) hb1⟩
  · have hk' : (t.kind == 3) = false := by simp [hk]
    have HK := Lib.hid hk
    clear hk
    unfold Tok.val Tok.cells
    go_enter Tryz.func144, Tryz.ntmps144
    go_wp2_with fail
    go_ret
    exact ⟨ret_bool (by simp [strangeB, HK.out]), below_alloc (Below.refl _ _) _⟩

set_option maxHeartbeats 400000 in
theorem rBelongs (w : World) (t : Tok) :
    Calls Tryz.prog 59 #[t.val] w fun e w' => e = .returned (.bool (belB t)) ∧ Below w.heap.size w w' := by
  cases hS : startB t belNames
  · have HS := Lib.hid hS
    clear hS
    unfold Tok.val Tok.cells
    go_enter Tryz.func59, Tryz.ntmps59
    go_wp2_with fail
    refine Calls.mono (rStarts _ t _ 10 belNames (by decide) (by exact Strs.mk_ _ (by simp))) ?_
    rintro e w1 ⟨rfl, hb1⟩
    obtain ⟨b0, b1, b2, b3, b4, b5, b6, b7, b8⟩ := HB.tok (((HB.new w 24 t.cells).alloc _).below hb1)
    rw [HS.out]
    go_wp2_with fail
    refine Calls.mono (rEnds _ t _ 1 [nTemplate] (by decide) (by exact Strs.mk_ _ (by simp))) ?_
    rintro e w2 ⟨rfl, hb2⟩
    go_wp2_with fail
    go_ret
    refine ⟨ret_bool (by simp [belB, HS.out]), ?_⟩
    exact below_step (below_alloc (below_step (below_alloc (below_alloc (Below.refl _ _) _) _) hb1) _) hb2
  · have HS := Lib.hid hS
    clear hS
    unfold Tok.val Tok.cells
    go_enter Tryz.func59, Tryz.ntmps59
    go_wp2_with fail
    refine Calls.mono (rStarts _ t _ 10 belNames (by decide) (by exact Strs.mk_ _ (by simp))) ?_
    rintro e w1 ⟨rfl, hb1⟩
    rw [HS.out]
    go_wp2_with fail
    go_ret
    refine ⟨ret_bool (by simp [belB, HS.out]), ?_⟩
    exact below_step (below_alloc (below_alloc (Below.refl _ _) _) _) hb1

def charsB (t : Tok) : Bool := (t.kind == 5) || ((t.kind == 6) || (t.kind == 7))
set_option maxHeartbeats 400000 in
theorem rIsChars (w : World) (t : Tok) :
    Calls Tryz.prog 151 #[t.val] w fun e w' => e = .returned (.bool (charsB t)) ∧ Below w.heap.size w w' := by
  have E : Hid (charsB t = ((t.kind == 5) || ((t.kind == 6) || (t.kind == 7)))) := Lib.hid rfl
  cases k5 : (t.kind == 5)
  · cases k6 : (t.kind == 6)
    · cases k7 : (t.kind == 7)
      all_goals
        rw [k5, k6, k7] at E
        unfold Tok.val Tok.cells
        go_enter Tryz.func151, Tryz.ntmps151
        go_wp2_with fail
        go_ret
        exact ⟨ret_bool E.out.symm, below_alloc (Below.refl _ _) _⟩
    · rw [k5, k6] at E
      unfold Tok.val Tok.cells
      go_enter Tryz.func151, Tryz.ntmps151
      go_wp2_with fail
      go_ret
      exact ⟨ret_bool E.out.symm, below_alloc (Below.refl _ _) _⟩
  · rw [k5] at E
    unfold Tok.val Tok.cells
    go_enter Tryz.func151, Tryz.ntmps151
    go_wp2_with fail
    go_ret
    exact ⟨ret_bool E.out.symm, below_alloc (Below.refl _ _) _⟩
end Go.Proofs.YtjmlkmlbhfkhbaaGreatDoor
