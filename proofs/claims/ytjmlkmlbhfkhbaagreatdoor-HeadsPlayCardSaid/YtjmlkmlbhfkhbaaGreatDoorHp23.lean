/-
  The reference's above (172), Off (173) of a node without parent, and Lay (139) of it behind all kids.
  The reference's Put (175), Insert (141), Imply (142), Only (185), Comment (146).
  The reference's Comment (146), Chars (145).
  The reference's Raw (183), At (186), the plain fields set.
-/
import Derived.Test.YtjmlkmlbhfkhbaaGreatDoorHp22
set_option linter.unusedSimpArgs false
set_option linter.unusedVariables false
namespace Go.Proofs.YtjmlkmlbhfkhbaaGreatDoor
open Go Go.RowKit

theorem Mv.own_new {S : Key → Prop} {w w2 : World} {c : Col} (hg : Good w c) (hb : Below w.heap.size w w2) {k : Key} {c2 : Col} (h : c2 = c ∨ ∃ g, w.heap.size ≤ g ∧ g < w2.heap.size ∧ c2 = paint c g k ∧ ∃ cur e, w2.heap[g]? = some (.cells cur e (0, 0))) : Mv S w c w2 c2 := by
  rcases h with rfl | ⟨g, h1, h2, rfl, -⟩
  · exact Mv.of_below hb
  · have m := Mv.of_below (S := S) (c := c) hb
    refine ⟨m.os, m.tape, m.output, m.size, fun g' hg' => ?_, m.blk, fun hgd g' hs => ?_⟩
    · rw [paint_other c k (by omega)]
    · rw [paint_other c k (by omega)]
      exact m.gd hgd g' hs

section
variable {w : World} {c : Col} {h : Sd} {st : St}

set_option maxHeartbeats 1000000 in
theorem rAbove (H : SRep w c h st) {i : Nat} {n : Nd} (hi : st.ns[i]? = some n) (hlen : st.ns.length ≤ 100000000) :
    Calls Tryz.prog 172 #[.pointer (some ⟨h.g, 0, none⟩), .int .i64 i] w fun e w' => e = .returned (.int .i64 (if n.kind = 6 then (i : Int) - 1 else n.parent)) ∧ w = w' := by
  obtain ⟨X, H⟩ := H
  obtain ⟨b0, -⟩ := H.bc
  have nl := H.nlen
  obtain ⟨gn, y, hA, hy, rfl, hlt, -, q, -⟩ := H.node hi
  have t0 := q 0 (by decide)
  have t6 := q 6 (by decide)
  simp only [NdC.cells, List.getElem?_cons_succ, List.getElem?_cons_zero, Nat.add_zero] at t0 t6
  rw [hA] at b0
  have h0 : (0 : Int) ≤ (i : Int) := by omega
  have h1 : (i : Int) < (X.cs.length : Int) := by omega
  have hw : IntKind.i64.wrap ((i : Int) - 1) = (i : Int) - 1 := by unfold IntKind.wrap; simp [IntKind.bits, IntKind.signed]; omega
  clear H q hi hA hy nl
  by_cases k : y.nd.kind = 6
  · have k' : (y.nd.kind == 6) = true := by simp [k]
    rw [if_pos k]
    clear k
    go_enter Tryz.func172, Tryz.ntmps172
    go_wp2_with fail
    go_ret
    exact ⟨rfl, rfl⟩
  · have k' : (y.nd.kind == 6) = false := by simp [k]
    rw [if_neg k]
    clear k
    go_enter Tryz.func172, Tryz.ntmps172
    go_wp2_with fail
    go_ret
    exact ⟨rfl, rfl⟩

set_option maxHeartbeats 1000000 in
theorem rOff (H : SRep w c h st) {i : Nat} {n : Nd} (hi : st.ns[i]? = some n) (hp : n.parent = -1) :
    Calls Tryz.prog 173 #[.pointer (some ⟨h.g, 0, none⟩), .int .i64 i] w fun e w' => e = .returned (.tuple #[]) ∧ w = w' := by
  obtain ⟨X, H⟩ := H
  obtain ⟨b0, -⟩ := H.bc
  obtain ⟨gn, y, hA, hy, rfl, hlt, -, q, -⟩ := H.node hi
  have t6 := q 6 (by decide)
  simp only [NdC.cells, List.getElem?_cons_succ, List.getElem?_cons_zero, hp] at t6
  rw [hA] at b0
  have h0 : (0 : Int) ≤ (i : Int) := by omega
  have h1 : (i : Int) < (X.cs.length : Int) := by omega
  clear H q hi hA hy hp
  go_enter Tryz.func173, Tryz.ntmps173
  go_wp2_with fail
  refine bodyPost_ret (results_none rfl _ _ _) rfl ?_
  exact ⟨rfl, rfl⟩
end

set_option maxRecDepth 100000 in
set_option maxHeartbeats 8000000 in
theorem rLay {w : World} {c : Col} {h : Sd} {st : St} (H : SRep w c h st) {N : Nat} (hs : Sz N st) (hN : N ≤ 10000000) (hu : UpNs st.ns) {p i : Nat} {np ni : Nd} (hp : st.ns[p]? = some np) (hi : st.ns[i]? = some ni) (hpi : p < i) (hpar : ni.parent = -1) (hkn : ∀ k ∈ np.kids, 0 ≤ k) :
    Calls Tryz.prog 139 #[.pointer (some ⟨h.g, 0, none⟩), .int .i64 p, .int .i64 (-1), .int .i64 i] w (OkS h { st with ns := hangN st.ns p i } (.tuple #[]) w c) := by
  have hlen := hs.1
  have hkl := (hs.2.2 p np hp).2.1
  have AB := Lib.hid (fun (q : Nat) (n : Nd) (hq : st.ns[q]? = some n) => rAbove H hq (by omega))
  have OF := Lib.hid (rOff H hi hpar)
  have UH := Lib.hid hu
  have HH := Lib.hid H
  have PP := Lib.hid (And.intro hp hi)
  have hil := (List.getElem?_eq_some_iff.1 hi).1
  have KN := Lib.hid hkn
  clear H hu hp hi hpar hkn hs
  go_enter Tryz.func139, Tryz.ntmps139
  go_wp2_with fail
  go_loop [8] (fun t => ∃ q : Int, t = .int .i64 q ∧ -1 ≤ q ∧ q < i) (fun t => (intOf t + 1).toNat)
  case atStart => exact ⟨(p : Int), rfl, by omega, by omega⟩
  case round =>
    obtain ⟨q, rfl, hq1, hq2⟩ := hrel
    by_cases h0 : 0 ≤ q
    · obtain ⟨q, rfl⟩ : ∃ m : Nat, q = (m : Int) := ⟨q.toNat, by omega⟩
      obtain ⟨n, hn⟩ : ∃ n, st.ns[q]? = some n := ⟨_, List.getElem?_eq_getElem (by omega)⟩
      have A1 := Lib.hid (AB.out q n hn)
      have U1 := UH.out q n hn
      have hne : ((q : Int) == (i : Int)) = false := beq_eq_false_iff_ne.2 (by omega)
      clear hn
      go_wp2_with fail
      refine A1.out.mono ?_
      rintro e w1 ⟨rfl, rfl⟩
      go_wp2_with fail
      go_round
      case rel =>
        refine ⟨_, rfl, ?_, ?_⟩
        · split <;> omega
        · split <;> omega
      case measure =>
        simp only [intOf]
        split <;> omega
    · have hq3 : ¬ (0 : Int) ≤ q := h0
      obtain ⟨X, HX⟩ := HH.out
      have nl := HX.nlen
      obtain ⟨b0, -⟩ := HX.bc
      obtain ⟨gn, y, hA, hy, e1, hlt, hgl, qq, qf⟩ := HX.node PP.out.1
      have t8 := qq 8 (by decide)
      simp only [NdC.cells, List.getElem?_cons_succ, List.getElem?_cons_zero] at t8
      rw [e1] at t8
      rw [hA] at b0
      have hp0 : (0 : Int) ≤ (p : Int) := by omega
      have hp1 : (p : Int) < (X.cs.length : Int) := by omega
      have HNL := Lib.hid nl
      have HA := Lib.hid (And.intro hA (And.intro hy e1))
      have KR := Lib.hid (HX.each p y hy).1
      have hgl2 := HX.hb.lt
      have XX := Lib.hid HX
      have T8 := Lib.hid t8
      obtain ⟨j0, hj0, hy0, hy1, hy2⟩ := info_parts info3
      clear HX nl hA hy e1 qq qf AB UH h0
      go_wp2_with fail
      refine OF.out.mono ?_
      rintro e w1 ⟨rfl, rfl⟩
      go_wp2_with fail
      go_loopw [9, 10] (fun s9 s10 wr => ∃ (k : Nat) (A : Option Addr) (cap : Nat) (cl : Col), s9 = .slice A k cap ∧ s10 = .int .i64 k ∧ k ≤ np.kids.length ∧ Hid (Mv (· = (9, 9, 9)) w (fun _ => (0, 0, 0)) wr cl ∧ RowOk wr cl (9, 9, 9) 3 1 A k cap (intCells (np.kids.take k)))) (fun _ s10 _ => np.kids.length - (intOf s10).toNat)
      case atStart => exact ⟨0, none, 0, fun _ => (0, 0, 0), rfl, rfl, Nat.zero_le _, Lib.hid ⟨Mv.refl _ _ _, by simpa [intCells] using RowOk.none_⟩⟩
      case round =>
        obtain ⟨k, A, cap, cl, rfl, rfl, hk, hR⟩ := hrel
        have hB := below_of_mv hR.out.1
        obtain ⟨B1, B2⟩ := bcell hB
        have b0' := (B1 h.g 0 hgl2).trans b0
        have t8' := (B1 gn (p * 11 + 8) hgl).trans t8
        by_cases hlt2 : k < np.kids.length
        · have g2 : (k : Int) < (np.kids.length : Int) := by omega
          have g3 : (0 : Int) ≤ (k : Int) := by omega
          obtain ⟨x, hx⟩ : ∃ x, np.kids[k]? = some x := ⟨_, List.getElem?_eq_getElem hlt2⟩
          have hxm := List.mem_of_getElem? hx
          have hne : (x == (-1 : Int)) = false := beq_eq_false_iff_ne.2 (by have := KN.out x hxm; omega)
          obtain ⟨gk, eK, -, hgk, ck, -⟩ := KR.out.at_ (by rw [HA.out.2.2]; omega)
          have ckx := (B1 gk k hgk).trans (ck k (.int .i64 x) (by rw [HA.out.2.2]; unfold intCells; rw [List.getElem?_map, hx]; rfl))
          have hw : IntKind.i64.wrap ((k : Int) + 1) = (k : Int) + 1 := by have := wrap_small (L := k + 1) (by omega); rwa [show (((k + 1 : Nat) : Int)) = (k : Int) + 1 by omega] at this
          rw [eK] at t8'
          have HX := Lib.hid hx
          clear hx hxm eK hgk ck t8 b0 B1 B2 hB
          go_wp2_with (at_builtin; refine wpList_append_row _ cl (9, 9, 9) rfl _ _ 31 rfl 3 j0 _ 1 8 Tryz.underlying31 hj0 hy0 hy1 hy2 rfl (by decide) A k cap (intCells (np.kids.take k)) rfl (by exact hR.out.2.kp (kp_below (below_alloc (Below.refl _ _) _))) _ 1 1 [.int .i64 x] rfl (by rfl) (by simp) (by exact (HB.at_ (by simp)).news) (by simp [Value.oneCell']) (by unfold maxLen; omega) (by omega) ?_; intro A3 cp3 w3 c3 hrow3 hmv3)
          go_roundw
          case rel =>
            refine ⟨k + 1, A3, cp3, c3, rfl, by rfl, by omega, Lib.hid ⟨hR.out.1.trans ((Mv.of_below (below_alloc (Below.refl _ _) _)).trans hmv3), ?_⟩⟩
            rw [List.take_add_one, HX.out]
            simpa [intCells] using hrow3
          case measure => simp [intOf]; omega
        · obtain rfl : k = np.kids.length := by omega
          have g2 : ¬ (np.kids.length : Int) < (np.kids.length : Int) := by omega
          have hkl2 : np.kids.length ≤ 10000000 := by omega
          obtain ⟨gi, yi, hAi, hyi, ei, hli, -, qi, -⟩ := XX.out.node PP.out.2
          obtain rfl : gn = gi := by have := HA.out.1.symm.trans hAi; simpa using this
          have qi6 := qi 6 (by decide)
          simp only [NdC.cells, List.getElem?_cons_succ, List.getElem?_cons_zero] at qi6
          have hcg : c gn = (h.sd, 3, 0) := by
            have hr := XX.out.row
            rw [HA.out.1] at hr
            obtain ⟨g', eg, ec, -⟩ := hr.at_ (by omega)
            obtain rfl : gn = g' := by simpa using eg
            exact ec
          have hne1 : ¬ h.g = gn := fun e => by
            have h1 := XX.out.hb.1
            rw [e, hcg] at h1
            simp at h1
          have hfg : ∀ j, w.frozen? ⟨gn, j, none⟩ = false := by
            obtain ⟨g', y', eg, -, -, -, -, -, f⟩ := XX.out.node PP.out.1
            obtain rfl : gn = g' := by have := HA.out.1.symm.trans eg; simpa using this
            exact f
          have HI := Lib.hid (And.intro hyi ei)
          have QI := Lib.hid qi6
          have FG := Lib.hid hfg
          have i0 : (0 : Int) ≤ (i : Int) := by omega
          have i1 : (i : Int) < (X.cs.length : Int) := by omega
          have o1 : ¬ (p * 11 + 8 = i * 11 + 6) := by omega
          have o2 : ¬ (i * 11 + 6 = p * 11 + 8) := by omega
          clear t8 B1 B2 hB hyi ei qi qi6 hfg hcg
          go_wp2_with (at_builtin; refine wpList_append_row _ cl (9, 9, 9) rfl _ _ 31 rfl 3 j0 _ 1 8 Tryz.underlying31 hj0 hy0 hy1 hy2 rfl (by decide) A np.kids.length cap (intCells (np.kids.take np.kids.length)) rfl (by exact hR.out.2.kp (kp_below (below_alloc (Below.refl _ _) _))) _ 1 1 [.int .i64 i] rfl (by rfl) (by simp) (by exact (HB.at_ (by simp)).news) (by simp [Value.oneCell']) (by unfold maxLen; omega) (by omega) ?_; intro A3 cp3 w3 c3 hrow3 hmv3; have M3 : Mv (· = (9, 9, 9)) w (fun _ => (0, 0, 0)) w3 c3 := hR.out.1.trans ((Mv.of_below (below_alloc (Below.refl _ _) _)).trans hmv3); have hB3 := below_of_mv M3; have z0 : w3.cell? ⟨h.g, 0, none⟩ = some (.slice (some ⟨gn, 0, none⟩) X.cs.length X.ncap) := ((bcell hB3).1 h.g 0 hgl2).trans b0; have z8 : w3.cell? ⟨gn, p * 11 + 8, none⟩ = some (.slice y.kA np.kids.length y.kcap) := ((bcell hB3).1 gn (p * 11 + 8) hgl).trans T8.out; have z6 : w3.cell? ⟨gn, i * 11 + 6, none⟩ = some (.int .i64 yi.nd.parent) := ((bcell hB3).1 gn (i * 11 + 6) hgl).trans QI.out; have zf8 : w3.frozen? ⟨gn, p * 11 + 8, none⟩ = false := ((bcell hB3).2 gn (p * 11 + 8) hgl).trans (FG.out _); have zf6 : w3.frozen? ⟨gn, i * 11 + 6, none⟩ = false := ((bcell hB3).2 gn (i * 11 + 6) hgl).trans (FG.out _); have zl : gn < w3.heap.size := Nat.lt_of_lt_of_le hgl hB3.size; have zl2 : h.g < w3.heap.size := Nat.lt_of_lt_of_le hgl2 hB3.size; clear hB3)
          have RN := RowNew.of_row M3 hrow3 (Nat.le_refl _)
          obtain ⟨c4, RO, hc4⟩ := RN.own c (h.sd, 4, p)
          have MB : Mv (· = (h.sd, 4, p)) w c w3 c4 := Mv.own_new XX.out.gd (below_of_mv M3) (by
            rcases hc4 with h1 | ⟨g, h1, h2, h3, cur, h4⟩
            · exact .inl h1
            · exact .inr ⟨g, h1, h2, h3, cur, _, h4⟩)
          have RO' : RowOk w3 c4 (h.sd, 4, p) 3 1 A3 (np.kids ++ [(i : Int)]).length cp3 (intCells (np.kids ++ [(i : Int)])) := by
            simpa [intCells] using RO
          obtain ⟨K1, K2⟩ := sKids XX.out HA.out.1 HA.out.2.1 RO' MB
          have hyi' : (X.cs.set p { y with nd := { y.nd with kids := np.kids ++ [(i : Int)] }, kA := A3, kcap := cp3 })[i]? = some yi := by
            rw [List.getElem?_set_ne (by omega)]; exact HI.out.1
          obtain ⟨N1, N2⟩ := sNode K1 (gn := gn) (i := i) (j := 6) (y' := { yi with nd := { yi.nd with parent := (p : Int) } }) (v := .int .i64 p) HA.out.1 hyi' (by decide) rfl ⟨rfl, rfl, rfl⟩ ⟨rfl, rfl, rfl⟩
          have HN : hangN st.ns p i = (st.ns.set p { y.nd with kids := np.kids ++ [(i : Int)] }).set i { yi.nd with parent := (p : Int) } := by
            unfold hangN
            rw [PP.out.1, PP.out.2, HA.out.2.2, HI.out.2]
          have FIN := Lib.hid (And.intro N1 (K2.trans N2))
          simp only [List.length_append, List.length_singleton] at FIN
          go_end0
          rw [HN]
          exact ⟨rfl, c4, ⟨_, FIN.out.1⟩, FIN.out.2⟩
end Go.Proofs.YtjmlkmlbhfkhbaaGreatDoor
namespace Go.Proofs.YtjmlkmlbhfkhbaaGreatDoor
open Go Go.RowKit

set_option maxHeartbeats 2000000 in
theorem rPut {w : World} {c : Col} {h : Sd} {st : St} (H : SRep w c h st) {N : Nat} (hs : Sz N st) (hN : N ≤ 10000000) (hf : st.foster = false) (hu : UpNs st.ns) {t : Nat} {n : Nd} (ht : st.ns[t]? = some n)
    {p i : Nat} {np ni : Nd} (hpl : placeOf t n = (p : Int)) (hp : st.ns[p]? = some np) (hi : st.ns[i]? = some ni) (hpi : p < i) (hpar : ni.parent = -1) (hkn : ∀ k ∈ np.kids, 0 ≤ k) :
    Calls Tryz.prog 175 #[.pointer (some ⟨h.g, 0, none⟩), .int .i64 i, .int .i64 t] w (OkS h { st with ns := hangN st.ns p i } (.tuple #[]) w c) := by
  have PL := Lib.hid (rPlace H hf ht)
  rw [hpl] at PL
  have LY := Lib.hid (rLay H hs hN hu hp hi hpi hpar hkn)
  clear H hs hf hu ht hpl hp hi hpar hkn
  go_enter Tryz.func175, Tryz.ntmps175
  go_wp2_with fail
  refine PL.out.mono ?_
  rintro e w1 ⟨rfl, rfl⟩
  go_wp2_with fail
  refine LY.out.mono ?_
  rintro e w2 ⟨rfl, c2, H2, m2⟩
  go_wp2_with fail
  go_end0
  exact ⟨rfl, c2, H2, m2⟩

set_option maxRecDepth 100000 in
set_option maxHeartbeats 4000000 in
theorem rInsert {w : World} {c : Col} {h : Sd} {st : St} (H : SRep w c h st) {N : Nat} (wf : Wf N st) (hN : N ≤ 900000) (hl : st.stk.length < 512) (t : Tok) (hs : Src w t.aA (attrCells t.attrs)) (hta : t.attrs.length ≤ 1000) :
    Calls Tryz.prog 141 #[.pointer (some ⟨h.g, 0, none⟩), t.val, .int .i64 0] w (OkS h (insM st t 0) (.int .i64 st.ns.length) w c) := by
  have hb0 : Below w.heap.size w (w.alloc (.cells t.cells.toArray 24)) := below_alloc (Below.refl _ _) _
  have AD := Lib.hid (rAdd (H.loc hb0) (elC t 0) (by have := wf.sz.1; omega) (by simp [elC]; omega) (hs.loc hb0))
  obtain ⟨X, HX⟩ := H.loc hb0
  have b1 := HX.bc.2.1
  obtain ⟨d0, d1, d2, d3, d4, d5, d6, d7, d8⟩ := (HB.new w 24 t.cells).tok
  have hsl : (st.stk.length : Int) < 512 := by omega
  have WF := Lib.hid wf
  have M0 : Hid (Mv (PrS h) w c (w.alloc (.cells t.cells.toArray 24)) c) := Lib.hid (Mv.of_below hb0)
  obtain ⟨j0, hj0, hy0, hy1, hy2⟩ := info_parts info3
  clear H HX hs wf hb0
  unfold Tok.val
  unfold Tok.cells at *
  go_enter Tryz.func141, Tryz.ntmps141
  go_wp2_with fail
  refine AD.out.mono ?_
  rintro e w1 ⟨rfl, c1, H1, m1⟩
  have W1 : Wf (N + 1002) { st with ns := addN st.ns (elC t 0).nd } := WF.out.add (by omega) (by simp [elC]; omega) (Nat.zero_le _)
  obtain ⟨n, t1, t2, t3⟩ := WF.out.tgt
  obtain ⟨np, p1, p2, p3⟩ := WF.out.place t1 t3
  obtain ⟨k, n1⟩ := addN_new st.ns (elC t 0).nd
  have hpl : plIx st.ns (tgtIx st) < st.ns.length := (List.getElem?_eq_some_iff.1 p1).1
  have t1' : (addN st.ns (elC t 0).nd)[tgtIx st]? = some n := by rw [addN_old (List.getElem?_eq_some_iff.1 t1).1]; exact t1
  have p1' : (addN st.ns (elC t 0).nd)[plIx st.ns (tgtIx st)]? = some np := by rw [addN_old hpl]; exact p1
  have HE := Lib.hid (rHere H1 (by show st.stk.length ≤ _; omega))
  rw [show topD ({ st with ns := addN st.ns (elC t 0).nd } : St).stk = (tgtIx st : Int) from t2] at HE
  have PT := Lib.hid (fun (W : World) (hb : Below w1.heap.size w1 W) => rPut (H1.loc hb) W1.sz (by omega) WF.out.nf W1.up t1' p2 p1' n1 hpl rfl (fun k hk => (W1.kid _ np p1' k hk).1))
  have M1 := Lib.hid m1
  clear t1 t2 t3 p1 p2 p3 n1 t1' p1' W1 b1 d0 d1 d2 d3 d4 d5 d6 d7 d8 H1 m1
  go_wp2_with fail
  refine HE.out.mono ?_
  rintro e w2 ⟨rfl, hb2⟩
  go_wp2_with fail
  refine (PT.out _ hb2).mono ?_
  rintro e w3 ⟨rfl, c3, H3, m3⟩
  have MM : Hid (Mv (PrS h) w c w3 c3) := Lib.hid (M0.out.trans (M1.out.trans ((Mv.of_below hb2).trans m3)))
  obtain ⟨Y, HY⟩ := H3
  obtain ⟨-, b1, -⟩ := HY.bc
  have HH := Lib.hid HY
  have b1' : w3.cell? ⟨h.g, 1, none⟩ = some (.slice Y.oA st.stk.length Y.ocap) := b1
  clear HY m3 hb2 b1
  go_wp2_with (at_builtin; refine wpList_append_row _ c3 (h.sd, 7, 0) rfl _ _ 31 rfl 3 j0 _ 1 8 Tryz.underlying31 hj0 hy0 hy1 hy2 rfl (by decide) Y.oA st.stk.length Y.ocap (intCells (opens st.stk)) rfl (by exact HH.out.opn.kp (kp_below (below_alloc (Below.refl _ _) _))) _ 1 1 [.int .i64 st.ns.length] rfl (by rfl) (by simp) (by exact (HB.at_ (by simp)).news) (by simp [Value.oneCell']) (by unfold maxLen; omega) (by omega) ?_; intro A4 cp4 w4 c4 hrow4 hmv4; have m04 : Mv (· = (h.sd, 7, 0)) w3 c3 w4 c4 := (Mv.of_below (below_alloc (Below.refl _ _) _)).trans hmv4; have hb4 := HH.out.hb.kp (m04.kp (k := (h.sd, 1, 0)) (by simp)); have z1 : w4.cell? ⟨h.g, 1, none⟩ = some (.slice Y.oA st.stk.length Y.ocap) := hb4.cell 1; have z2 := hb4.frozen 1; have z3 := hb4.lt; clear b1')
  go_ret
  have hrow5 : RowOk w4 c4 (h.sd, 7, 0) 3 1 A4 (st.stk ++ [(⟨(st.ns.length : Int), 0, t.name⟩ : OpE)]).length cp4 (intCells (opens (st.stk ++ [(⟨(st.ns.length : Int), 0, t.name⟩ : OpE)]))) := by
    simpa [intCells, opens] using hrow4
  obtain ⟨S1, S2⟩ := sOpen HH.out hrow5 m04
  rw [show (st.stk ++ [(⟨(st.ns.length : Int), 0, t.name⟩ : OpE)]).length = st.stk.length + 1 by simp] at S1 S2
  exact ⟨rfl, c4, ⟨_, S1⟩, MM.out.trans S2⟩

set_option maxHeartbeats 1000000 in
theorem rImply {w : World} {c : Col} {h : Sd} {st : St} (H : SRep w c h st) {N : Nat} (wf : Wf N st) (hN : N ≤ 900000) (hl : st.stk.length < 512) (name : Str) :
    Calls Tryz.prog 142 #[.pointer (some ⟨h.g, 0, none⟩), .string name] w (OkS h (insM st (impTok name) 0) (.int .i64 st.ns.length) w c) := by
  have IN := Lib.hid (rInsert H wf hN hl (impTok name) ⟨fun _ => rfl, fun _ e => by cases e⟩ (by simp [impTok]))
  clear H wf
  go_enter Tryz.func142, Tryz.ntmps142
  go_wp2_with fail
  refine IN.out.mono ?_
  rintro e w2 ⟨rfl, c2, H2, m2⟩
  go_wp2_with fail
  go_ret
  exact ⟨rfl, c2, H2, m2⟩

set_option maxHeartbeats 1000000 in
theorem rOnly {w : World} {c : Col} {h : Sd} {st : St} (H : SRep w c h st) {N : Nat} (wf : Wf N st) (hN : N ≤ 900000) (hl : st.stk.length < 511) (t : Tok) (hs : Src w t.aA (attrCells t.attrs)) (hta : t.attrs.length ≤ 1000) :
    Calls Tryz.prog 185 #[.pointer (some ⟨h.g, 0, none⟩), t.val] w (OkS h (onlyM st t) (.int .i64 st.ns.length) w c) := by
  have hb0 : Below w.heap.size w (w.alloc (.cells t.cells.toArray 24)) := below_alloc (Below.refl _ _) _
  have IN := Lib.hid ((rInsert (H.loc hb0) wf hN (by omega) t (hs.loc hb0) hta).mono fun e w2 ho => ho.after hb0)
  obtain ⟨d0, d1, d2, d3, d4, d5, d6, d7, d8⟩ := (HB.new w 24 t.cells).tok
  have hn0 : (0 : Int) ≤ (st.ns.length : Int) := by omega
  have hll : (insM st t 0).stk.length ≤ 1000000 := by show (st.stk ++ [_]).length ≤ _; simp; omega
  clear H wf hs hb0
  unfold Tok.val
  unfold Tok.cells at *
  go_enter Tryz.func185, Tryz.ntmps185
  go_wp2_with fail
  refine IN.out.mono ?_
  rintro e w2 ⟨rfl, c2, H2, m2⟩
  have PO := Lib.hid (rPop H2 hll)
  go_wp2_with fail
  refine PO.out.mono ?_
  rintro e w3 ⟨rfl, c3, H3, m3⟩
  go_wp2_with fail
  go_ret
  have e : ({ insM st t 0 with stk := (insM st t 0).stk.dropLast } : St) = onlyM st t := by
    unfold onlyM insM
    simp
  rw [e] at H3
  exact ⟨rfl, c3, H3, m2.trans m3⟩
end Go.Proofs.YtjmlkmlbhfkhbaaGreatDoor
namespace Go.Proofs.YtjmlkmlbhfkhbaaGreatDoor
open Go Go.RowKit

/-- A node is added, and laid behind p's kids. -/
theorem rAddLay {w : World} {c : Col} {h : Sd} {st : St} (H : SRep w c h st) {N : Nat} (wf : Wf N st) (hN : N ≤ 900000) (y : NdC) (ha : y.nd.attrs = []) (haA : y.aA = none) (ht : y.nd.text.size ≤ 1000) {p : Nat} (hp : p < st.ns.length) :
    Calls Tryz.prog 140 #[.pointer (some ⟨h.g, 0, none⟩), y.val] w fun e w1 => e = .returned (.int .i64 st.ns.length) ∧ ∃ c1, SRep w1 c1 h { st with ns := addN st.ns y.nd } ∧ Mv (PrS h) w c w1 c1 ∧
      ∀ W, Below w1.heap.size w1 W → Calls Tryz.prog 139 #[.pointer (some ⟨h.g, 0, none⟩), .int .i64 p, .int .i64 (-1), .int .i64 st.ns.length] W (OkS h { st with ns := hangN (addN st.ns y.nd) p st.ns.length } (.tuple #[]) w c) := by
  refine (rAdd H y (by have := wf.sz.1; omega) (by rw [ha]; simp) ⟨fun _ => by rw [ha]; rfl, fun ad e => by rw [haA] at e; cases e⟩).mono ?_
  rintro e w1 ⟨rfl, c1, H1, m1⟩
  refine ⟨rfl, c1, H1, m1, fun W hW => ?_⟩
  have W1 : Wf (N + 1002) { st with ns := addN st.ns y.nd } := wf.add (by omega) (by rw [ha]; simp) (by omega)
  obtain ⟨k, n1⟩ := addN_new st.ns y.nd
  obtain ⟨np, hnp⟩ : ∃ np, st.ns[p]? = some np := ⟨_, List.getElem?_eq_getElem hp⟩
  have p1' : (addN st.ns y.nd)[p]? = some np := by rw [addN_old hp]; exact hnp
  refine (rLay (H1.loc hW) W1.sz (by omega) W1.up p1' n1 hp rfl (fun k hk => (W1.kid _ np p1' k hk).1)).mono ?_
  rintro e w2 ⟨rfl, c2, H2, m2⟩
  exact ⟨rfl, c2, H2, m1.trans ((Mv.of_below hW).trans m2)⟩

set_option maxRecDepth 100000 in
set_option maxHeartbeats 4000000 in
theorem rComment {w : World} {c : Col} {h : Sd} {st : St} (H : SRep w c h st) {N : Nat} (wf : Wf N st) (hN : N ≤ 900000) (hl : st.stk.length ≤ 1000) (t : Tok) (ht : t.text.size ≤ 1000) (m : Int) (p : Nat)
    (hm : (m = 0 ∧ p = 0) ∨ (m = -1 ∧ p = plIx st.ns (tgtIx st))) :
    Calls Tryz.prog 146 #[.pointer (some ⟨h.g, 0, none⟩), t.val, .int .i64 m] w (OkS h (cmM st t.text p) (.tuple #[]) w c) := by
  have hb0 : Below w.heap.size w (w.alloc (.cells t.cells.toArray 24)) := below_alloc (Below.refl _ _) _
  obtain ⟨d0, d1, d2, d3, d4, d5, d6, d7, d8⟩ := (HB.new w 24 t.cells).tok
  have hl0 : 0 < st.ns.length := by have := wf.sz.2.1; omega
  have hp : p < st.ns.length := by
    rcases hm with ⟨-, rfl⟩ | ⟨-, rfl⟩
    · exact hl0
    · exact wf.plLt
  have AL := Lib.hid (rAddLay (H.loc hb0) wf hN (cmC t.text) rfl rfl (by exact ht) hp)
  have WF := Lib.hid wf
  have HTX := Lib.hid ht
  have M0 : Hid (Mv (PrS h) w c (w.alloc (.cells t.cells.toArray 24)) c) := Lib.hid (Mv.of_below hb0)
  have eC : (cmC t.text).val = .agg #[.int .i64 5, .string ⟨#[]⟩, .string t.text, .int .i64 0, .slice none 0 0, .bool false, .int .i64 0, .int .i64 0, .slice none 0 0, .int .i64 (-1), .int .i64 (-1)] := rfl
  rw [eC] at AL
  clear H wf ht eC hb0
  unfold Tok.val
  unfold Tok.cells at *
  rcases hm with ⟨rfl, rfl⟩ | ⟨rfl, hpe⟩
  · go_enter Tryz.func146, Tryz.ntmps146
    go_wp2_with fail
    refine AL.out.mono ?_
    rintro e w1 ⟨rfl, c1, H1, m1, LY⟩
    have LYH := Lib.hid (LY _ (Below.refl _ _))
    clear LY H1
    go_wp2_with fail
    refine LYH.out.mono ?_
    rintro e w2 ⟨rfl, c2, H2, m2⟩
    go_wp2_with fail
    first
      | (go_end0; exact ⟨rfl, c2, H2, M0.out.trans m2⟩)
      | (refine bodyPost_ret (results_none rfl _ _ _) rfl ?_; exact ⟨rfl, c2, H2, M0.out.trans m2⟩)
  · go_enter Tryz.func146, Tryz.ntmps146
    go_wp2_with fail
    refine AL.out.mono ?_
    rintro e w1 ⟨rfl, c1, H1, m1, LY⟩
    have W1 : Wf (N + 1002) { st with ns := addN st.ns (cmC t.text).nd } := WF.out.add (by omega) (by simp [cmC]) (by show t.text.size ≤ _; have := HTX.out; omega)
    obtain ⟨n, t1, t2, t3⟩ := WF.out.tgt
    obtain ⟨np, p1, p2, p3⟩ := WF.out.place t1 t3
    obtain ⟨k, n1⟩ := addN_new st.ns (cmC t.text).nd
    have t1' : (addN st.ns (cmC t.text).nd)[tgtIx st]? = some n := by rw [addN_old (List.getElem?_eq_some_iff.1 t1).1]; exact t1
    have p1' : (addN st.ns (cmC t.text).nd)[plIx st.ns (tgtIx st)]? = some np := by rw [addN_old (by rw [← hpe]; exact hp)]; exact p1
    have HE := Lib.hid (rHere H1 (by show st.stk.length ≤ _; omega))
    rw [show topD ({ st with ns := addN st.ns (cmC t.text).nd } : St).stk = (tgtIx st : Int) from t2] at HE
    have PT := Lib.hid (fun (W : World) (hb : Below w1.heap.size w1 W) => rPut (H1.loc hb) W1.sz (by omega) WF.out.nf W1.up t1' p2 p1' n1 (by rw [← hpe]; exact hp) rfl (fun k hk => (W1.kid _ np p1' k hk).1))
    have M1 := Lib.hid m1
    clear t1 t2 t3 p1 p2 p3 n1 t1' p1' W1 LY H1 m1
    go_wp2_with fail
    refine HE.out.mono ?_
    rintro e w2 ⟨rfl, hb2⟩
    go_wp2_with fail
    refine (PT.out _ hb2).mono ?_
    rintro e w3 ⟨rfl, c3, H3, m3⟩
    go_wp2_with fail
    rw [hpe]
    first
      | (go_end0; exact ⟨rfl, c3, H3, M0.out.trans (M1.out.trans ((Mv.of_below hb2).trans m3))⟩)
      | (refine bodyPost_ret (results_none rfl _ _ _) rfl ?_; exact ⟨rfl, c3, H3, M0.out.trans (M1.out.trans ((Mv.of_below hb2).trans m3))⟩)
end Go.Proofs.YtjmlkmlbhfkhbaaGreatDoor
namespace Go.Proofs.YtjmlkmlbhfkhbaaGreatDoor
open Go Go.RowKit

theorem setMode {w : World} {c : Col} {h : Sd} {x : SSh} {st : St} (H : SRepX w c h x st) (m : Int) : SRepX (w.setCell ⟨h.g, 3, none⟩ (.int .i64 m)) c h x { st with mode := m } ∧ Mv (PrS h) w c (w.setCell ⟨h.g, 3, none⟩ (.int .i64 m)) c :=
  H.setS (x' := x) (st' := { st with mode := m }) 3 (.int .i64 m) rfl rfl rfl rfl rfl H.ask rfl
theorem setBack {w : World} {c : Col} {h : Sd} {x : SSh} {st : St} (H : SRepX w c h x st) (m : Int) : SRepX (w.setCell ⟨h.g, 4, none⟩ (.int .i64 m)) c h x { st with back := m } ∧ Mv (PrS h) w c (w.setCell ⟨h.g, 4, none⟩ (.int .i64 m)) c :=
  H.setS (x' := x) (st' := { st with back := m }) 4 (.int .i64 m) rfl rfl rfl rfl rfl H.ask rfl
theorem setHeadS {w : World} {c : Col} {h : Sd} {x : SSh} {st : St} (H : SRepX w c h x st) (m : Int) : SRepX (w.setCell ⟨h.g, 6, none⟩ (.int .i64 m)) c h x { st with head := m } ∧ Mv (PrS h) w c (w.setCell ⟨h.g, 6, none⟩ (.int .i64 m)) c :=
  H.setS (x' := x) (st' := { st with head := m }) 6 (.int .i64 m) rfl rfl rfl rfl rfl H.ask rfl
theorem setQuirksS {w : World} {c : Col} {h : Sd} {x : SSh} {st : St} (H : SRepX w c h x st) (m : Bool) : SRepX (w.setCell ⟨h.g, 8, none⟩ (.bool m)) c h x { st with quirks := m } ∧ Mv (PrS h) w c (w.setCell ⟨h.g, 8, none⟩ (.bool m)) c :=
  H.setS (x' := x) (st' := { st with quirks := m }) 8 (.bool m) rfl rfl rfl rfl rfl H.ask rfl
/-- What is asked: three cells. -/
theorem setAskS {w : World} {c : Col} {h : Sd} {x : SSh} {st : St} (H : SRepX w c h x st) (k : Int) (n : Str) :
    SRepX (((w.setCell ⟨h.g, 12, none⟩ (.bool true)).setCell ⟨h.g, 13, none⟩ (.int .i64 k)).setCell ⟨h.g, 14, none⟩ (.string n)) c h { x with qs := k, qn := n } { st with ask := some (k, n) } ∧
      Mv (PrS h) w c (((w.setCell ⟨h.g, 12, none⟩ (.bool true)).setCell ⟨h.g, 13, none⟩ (.int .i64 k)).setCell ⟨h.g, 14, none⟩ (.string n)) c := by
  obtain ⟨A1, A2⟩ := H.setS (x' := x) (st' := { st with ask := some (x.qs, x.qn) }) 12 (.bool true) rfl rfl rfl rfl rfl (fun s n e => by cases e; exact ⟨rfl, rfl⟩) rfl
  obtain ⟨B1, B2⟩ := A1.setS (x' := { x with qs := k }) (st' := { st with ask := some (k, x.qn) }) 13 (.int .i64 k) rfl rfl rfl rfl rfl (fun s n e => by cases e; exact ⟨rfl, rfl⟩) rfl
  obtain ⟨C1, C2⟩ := B1.setS (x' := { x with qs := k, qn := n }) (st' := { st with ask := some (k, n) }) 14 (.string n) rfl rfl rfl rfl rfl (fun s n e => by cases e; exact ⟨rfl, rfl⟩) rfl
  exact ⟨C1, A2.trans (B2.trans C2)⟩

set_option maxRecDepth 100000 in
set_option maxHeartbeats 4000000 in
theorem rRaw {w : World} {c : Col} {h : Sd} {st : St} (H : SRep w c h st) {N : Nat} (wf : Wf N st) (hN : N ≤ 900000) (hl : st.stk.length < 512) (t : Tok) (hs : Src w t.aA (attrCells t.attrs)) (hta : t.attrs.length ≤ 1000) (k : Int) :
    Calls Tryz.prog 183 #[.pointer (some ⟨h.g, 0, none⟩), t.val, .int .i64 k] w (OkS h (rawM st t k) (.tuple #[]) w c) := by
  have hb0 : Below w.heap.size w (w.alloc (.cells t.cells.toArray 24)) := below_alloc (Below.refl _ _) _
  have B0 := HB.new w 24 t.cells
  have BOX : Hid (∀ W C, Mv (PrS h) (w.alloc (.cells t.cells.toArray 24)) c W C → HB W w.heap.size 24 t.cells) := Lib.hid fun W C hm => B0.mvk hm (fun e => H.sd (by unfold PrS at e; rw [← e, H.gd _ (Nat.le_refl _)]))
  have IN := Lib.hid (rInsert (H.loc hb0) wf hN hl t (hs.loc hb0) hta)
  have M0 : Hid (Mv (PrS h) w c (w.alloc (.cells t.cells.toArray 24)) c) := Lib.hid (Mv.of_below hb0)
  obtain ⟨d0, d1, d2, d3, d4, d5, d6, d7, d8⟩ := B0.tok
  have HCZ : Hid ((c w.heap.size).1 = 0) := Lib.hid (H.gd _ (Nat.le_refl _))
  clear H wf hs hb0 B0
  unfold Tok.val
  unfold Tok.cells at *
  go_enter Tryz.func183, Tryz.ntmps183
  go_wp2_with fail
  refine IN.out.mono ?_
  rintro e w1 ⟨rfl, c1, H1, m1⟩
  have HBX := BOX.out _ _ m1
  obtain ⟨-, q1, -⟩ := HBX.tok
  obtain ⟨X, HX⟩ := H1
  obtain ⟨-, -, -, b3, b4, -, -, -, -, -, -, -, b12, b13, b14, -, bf, bl⟩ := HX.bc
  have f3 := bf 3
  have f4 := bf 4
  have f12 := bf 12
  have f13 := bf 13
  have f14 := bf 14
  have hne : ¬ w.heap.size = h.g := by
    intro e
    have h1 := HX.hb.1
    have h2 := m1.ext w.heap.size (by simp)
    rw [← e, h2] at h1
    have h3 := HCZ.out
    rw [h1] at h3
    exact HX.sd h3
  have hbl := HBX.lt
  obtain ⟨S1, S2⟩ := setAskS HX k t.name
  obtain ⟨T1, T2⟩ := setBack S1 st.mode
  obtain ⟨U1, U2⟩ := setMode T1 7
  have FIN := Lib.hid (And.intro U1 (M0.out.trans (m1.trans (S2.trans (T2.trans U2)))))
  clear d0 d1 d2 d3 d4 d5 d6 d7 d8 HX S1 S2 T1 T2 U1 U2 bf HBX m1
  go_wp2_with fail
  go_region
  all_goals
    go_wp2_with fail
    go_end0
    exact ⟨rfl, c1, (show SRep _ c1 h _ from ⟨_, FIN.out.1⟩).loc (below_drew (Below.refl _ _)), FIN.out.2.drew⟩
end Go.Proofs.YtjmlkmlbhfkhbaaGreatDoor
