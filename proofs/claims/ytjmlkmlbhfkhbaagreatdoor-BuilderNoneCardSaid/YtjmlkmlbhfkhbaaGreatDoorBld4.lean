/-
  The builder's Put of a new node, element, Insert, Imply, Only.
-/
import Derived.Test.YtjmlkmlbhfkhbaaGreatDoorPl1
namespace Go.Proofs.YtjmlkmlbhfkhbaaGreatDoor
open Go Go.RowKit

theorem OkB.after {h : Hd} {st : St} {v : Value} {w w1 : World} {c : Col} (hb : Below w.heap.size w w1) {e : Ending} {w2 : World} (H : OkB h st v w1 c e w2) : OkB h st v w c e w2 :=
  ⟨H.1, H.2.choose, H.2.choose_spec.1, (Mv.of_below hb).trans H.2.choose_spec.2⟩
theorem OkB.step {h : Hd} {st : St} {v : Value} {w w1 : World} {c c1 : Col} (hm : Mv (Pr h) w c w1 c1) {e : Ending} {w2 : World} (H : OkB h st v w1 c1 e w2) : OkB h st v w c e w2 :=
  ⟨H.1, H.2.choose, H.2.choose_spec.1, hm.trans H.2.choose_spec.2⟩

set_option maxHeartbeats 1000000 in
/-- Put of node i, that hangs nowhere yet, at the place of target t: p. -/
theorem bPut {w : World} {c : Col} {h : Hd} {st : St} (H : BRep w c h st) {N : Nat} (hs : Sz N st) (hN : N ≤ 100000000) (hf : st.foster = false) {t : Nat} {n : Nd} (ht : st.ns[t]? = some n)
    {p i : Nat} {np ni : Nd} (hpl : placeOf t n = (p : Int)) (hp : st.ns[p]? = some np) (hi : st.ns[i]? = some ni) (hpar : ni.parent = -1) (hpi : p < i)
    (hkp : np.kind = 1 ∨ np.kind = 3 ∨ np.kind = 6) (hki : ni.kind = 2 ∨ ni.kind = 3 ∨ ni.kind = 4 ∨ ni.kind = 5) (hu : UpNs st.ns) :
    Calls Tryz.prog 19 #[.pointer (some ⟨h.b, 0, none⟩), .int .i64 i, .int .i64 t] w (OkB h { st with ns := hangN st.ns p i } (.tuple #[]) w c) := by
  have N1 := Lib.hid (bNone H)
  have PL := Lib.hid (bPlace H hs hN hf ht)
  rw [hpl] at PL
  have AP := Lib.hid (fun (W : World) (hW : Below w.heap.size w W) => aAppend (H.loc hW) hp hi hpar hpi (by have := hs.1; omega) (by have := (hs.2.2 p np hp).2.1; omega) hkp hki hu)
  have BC := Lib.hid (fun (W : World) (hW : Below w.heap.size w W) => (H.loc hW).choose_spec.bc.1)
  have hp0 : (0 : Int) ≤ (p : Int) := by omega
  clear H hs hf ht hpl hp hi hpar hkp hki hu
  go_enter Tryz.func19, Tryz.ntmps19
  go_wp2_with (go_at_call 63; refine N1.out.mono ?_; rintro e w1 ⟨rfl, rfl⟩)
  refine PL.out.mono ?_
  rintro e w1 ⟨rfl, hb1⟩
  have b0 := BC.out _ hb1
  go_wp2_with fail
  refine (AP.out _ hb1).mono ?_
  intro e w2 ho
  obtain ⟨rfl, c2, H2, hm2⟩ := ho.after hb1
  go_wp2_with fail
  go_end0
  exact ⟨rfl, c2, H2, hm2⟩

/-- The node of a tag. -/
def elC (t : Tok) (space : Int) : NdC :=
  { nd := { kind := 3, name := t.name, text := ⟨#[]⟩, space := space, attrs := t.attrs, dup := t.dup, parent := 0, content := 0, kids := [], frm := t.frm, to_ := t.to_ }, aA := t.aA, acap := t.acap, kA := none, kcap := 0 }

set_option maxHeartbeats 1000000 in
theorem bElement (w : World) (t : Tok) (space : Int) : Calls Tryz.prog 87 #[t.val, .int .i64 space] w fun e w' => e = .returned (elC t space).val ∧ Below w.heap.size w w' := by
  unfold Tok.val Tok.cells
  go_enter Tryz.func87, Tryz.ntmps87
  go_wp2_with fail
  refine bodyPost_ret (v := (elC t space).val) ?_ rfl ?_
  · simp [results, Tryz.results87, go_sem, NdC.val, NdC.cells, elC]
  · refine ⟨rfl, ?_⟩
    exact below_alloc (below_alloc (Below.refl _ _) _) _

def insM (st : St) (t : Tok) (space : Int) : St :=
  { st with ns := hangN (addN st.ns (elC t space).nd) (plIx st.ns (tgtIx st)) st.ns.length, stk := st.stk ++ [⟨(st.ns.length : Int), space, t.name⟩] }

/-- Behind the node is added. -/
def InsMid (h : Hd) (st1 : St) (w : World) (c : Col) (n : Nat) (s7 : Value) (wx : World) : Prop := s7 = .int .i64 n ∧ ∃ c1, BRep wx c1 h st1 ∧ Mv (Pr h) w c wx c1

set_option maxRecDepth 100000 in
set_option maxHeartbeats 4000000 in
theorem bInsert {w : World} {c : Col} {h : Hd} {st : St} (H : BRep w c h st) {N : Nat} (wf : Wf N st) (hN : N ≤ 10000000) (hl : st.stk.length < 512) (t : Tok) (space : Int) (hs : Src w t.aA (attrCells t.attrs)) (hta : t.attrs.length ≤ 1000) :
    Calls Tryz.prog 45 #[.pointer (some ⟨h.b, 0, none⟩), t.val, .int .i64 space] w (OkB h (insM st t space) (.int .i64 st.ns.length) w c) := by
  have N1 := Lib.hid (fun (W : World) (hW : Below w.heap.size w W) => bNone (H.loc hW))
  have L1 := Lib.hid (fun (W : World) (hW : Below w.heap.size w W) => sLen ((H.loc hW).choose_spec.sv (by omega)))
  have BC := Lib.hid (fun (W : World) (hW : Below w.heap.size w W) => And.intro (H.loc hW).choose_spec.bc.1 (And.intro (H.loc hW).choose_spec.bc.2.1 (H.loc hW).choose_spec.hb.lt))
  have AD := Lib.hid (fun (W : World) (hW : Below w.heap.size w W) => aAdd (H.loc hW) (elC t space) (by right; left; rfl) (by have := wf.sz.1; omega) (by simp [elC]; omega) (hs.loc hW) wf.sz.2.1)
  have hsl : (st.stk.length : Int) < 512 := by omega
  clear H hs
  have WF := Lib.hid wf
  clear wf
  unfold Tok.val Tok.cells
  go_enter Tryz.func45, Tryz.ntmps45
  obtain ⟨q0, q1, q2⟩ := BC.out _ (below_alloc (Below.refl w.heap.size w) (.cells t.cells.toArray 24))
  unfold Tok.cells at q0 q1 q2
  go_upto_region 6 with (first | (go_at_call 63; refine (N1.out _ (below_alloc (Below.refl _ _) _)).mono ?_; rintro e w1 ⟨rfl, rfl⟩) | (go_at_call 77; refine (L1.out _ (below_alloc (Below.refl _ _) _)).mono ?_; rintro e w1 ⟨rfl, rfl⟩))
  go_cut [7] (fun s7 wx => InsMid h { st with ns := addN st.ns (elC t space).nd } w c st.ns.length s7 wx)
  case first =>
    go_region_with (first
      | (go_at_call 87; refine (bElement _ t space).mono ?_; rintro e w1 ⟨rfl, hb1⟩; have hB : Below w.heap.size w w1 := below_step (below_drew (below_alloc (Below.refl _ _) _)) hb1; have q3 := (BC.out _ hB).1)
      | (go_at_call 68; refine (AD.out _ hB).mono ?_; intro e w2 ho; obtain ⟨rfl, c2, H2, hm2⟩ := ho.after hB))
    all_goals
      go_wp2_with fail
      go_meet
      case rel => exact ⟨rfl, c2, H2, hm2⟩
  case rest =>
    obtain ⟨rfl, c1, H1, hm1⟩ := hcut
    have W1 : Wf (N + 1002) { st with ns := addN st.ns (elC t space).nd } := WF.out.add (by omega) (by simp [elC]; omega) (Nat.zero_le _)
    obtain ⟨n, t1, t2, t3⟩ := WF.out.tgt
    obtain ⟨np, p1, p2, p3⟩ := WF.out.place t1 t3
    obtain ⟨k, n1⟩ := addN_new st.ns (elC t space).nd
    have hpl : plIx st.ns (tgtIx st) < st.ns.length := (List.getElem?_eq_some_iff.1 p1).1
    have t1' : (addN st.ns (elC t space).nd)[tgtIx st]? = some n := by rw [addN_old (List.getElem?_eq_some_iff.1 t1).1]; exact t1
    have p1' : (addN st.ns (elC t space).nd)[plIx st.ns (tgtIx st)]? = some np := by rw [addN_old hpl]; exact p1
    have TG := Lib.hid (bTarget H1 (by show st.stk.length ≤ _; omega))
    rw [show topD ({ st with ns := addN st.ns (elC t space).nd } : St).stk = (tgtIx st : Int) from t2] at TG
    have PT := Lib.hid (bPut H1 W1.sz (by omega) WF.out.nf t1' p2 p1' n1 rfl hpl p3 (by right; left; rfl) W1.up)
    have W2 := W1.hang hpl (by have := (addN_len st.ns (elC t space).nd).1; show st.ns.length < (addN st.ns (elC t space).nd).length; omega)
    obtain ⟨m, hm⟩ := hangN_some (p := plIx st.ns (tgtIx st)) (i := st.ns.length) n1
    obtain ⟨n', hn', f1, f2, f3, f4, -⟩ := hangN_cases (by omega) hm
    rw [n1] at hn'
    obtain rfl := Option.some.inj hn'
    have q4 : wc.cell? ⟨h.b, 1, none⟩ = some (.pointer (some ⟨h.s, 0, none⟩)) := H1.choose_spec.bc.2.1
    have PU := Lib.hid (fun (W : World) (c2 : Col) (H2 : BRep W c2 h { st with ns := hangN (addN st.ns (elC t space).nd) (plIx st.ns (tgtIx st)) st.ns.length }) => sPush H2 W2.sz (by omega) (by show st.stk.length < 512; omega) hm (by rw [f1]; rfl))
    rw [f2, f4] at PU
    clear t1 t2 t3 p1 p2 p3 n1 t1' p1' W1 W2 hm f1 f2 f3 f4 q0 q1 q2
    go_wp2_with (go_at_call 66; refine TG.out.mono ?_; rintro e w1 ⟨rfl, rfl⟩)
    refine PT.out.mono ?_
    rintro e w2 ⟨rfl, c2, H2, hm2⟩
    have q5 : w2.cell? ⟨h.b, 1, none⟩ = some (.pointer (some ⟨h.s, 0, none⟩)) := H2.choose_spec.bc.2.1
    go_wp2_with fail
    refine (PU.out _ _ H2).mono ?_
    rintro e w3 ⟨rfl, c3, H3, hm3⟩
    go_wp2_with fail
    refine (bFail0 H3).mono ?_
    rintro e w4 ⟨rfl, rfl⟩
    go_wp2_with fail
    go_ret
    exact ⟨rfl, c3, H3, hm1.trans (hm2.trans hm3)⟩
theorem Wf.ins {N : Nat} {st : St} (wf : Wf N st) (t : Tok) (space : Int) (hta : t.attrs.length ≤ 1000) : Wf (N + 1003) (insM st t space) := by
  have W1 : Wf (N + 1002) { st with ns := addN st.ns (elC t space).nd } := wf.add (by omega) (by simp [elC]; omega) (Nat.zero_le _)
  obtain ⟨n, t1, t2, t3⟩ := wf.tgt
  obtain ⟨np, p1, p2, p3⟩ := wf.place t1 t3
  obtain ⟨k, n1⟩ := addN_new st.ns (elC t space).nd
  have hpl : plIx st.ns (tgtIx st) < st.ns.length := (List.getElem?_eq_some_iff.1 p1).1
  have W2 := W1.hang hpl (by have := (addN_len st.ns (elC t space).nd).1; show st.ns.length < (addN st.ns (elC t space).nd).length; omega)
  obtain ⟨m, hm⟩ := hangN_some (p := plIx st.ns (tgtIx st)) (i := st.ns.length) n1
  obtain ⟨n', hn', f1, f2, f3, f4, -⟩ := hangN_cases (by omega) hm
  rw [n1] at hn'
  obtain rfl := Option.some.inj hn'
  have := W2.push hm (by rw [f1]; rfl)
  rw [f2, f4] at this
  exact this

/-- The tag of an element for which no tag stands. -/
def impTok (name : Str) : Tok := { kind := 2, name := name, text := ⟨#[]⟩, attrs := [], aA := none, acap := 0, dup := false, self := false, quirks := false, frm := -1, to_ := -1 }

set_option maxHeartbeats 1000000 in
theorem bImply {w : World} {c : Col} {h : Hd} {st : St} (H : BRep w c h st) {N : Nat} (wf : Wf N st) (hN : N ≤ 10000000) (hl : st.stk.length < 512) (name : Str) :
    Calls Tryz.prog 47 #[.pointer (some ⟨h.b, 0, none⟩), .string name] w (OkB h (insM st (impTok name) 0) (.int .i64 st.ns.length) w c) := by
  have IN := Lib.hid (bInsert H wf hN hl (impTok name) 0 ⟨fun _ => rfl, fun _ e => by cases e⟩ (by simp [impTok]))
  clear H wf
  go_enter Tryz.func47, Tryz.ntmps47
  go_wp2_with fail
  refine IN.out.mono ?_
  rintro e w1 ⟨rfl, c1, H1, hm1⟩
  go_wp2_with fail
  go_ret
  exact ⟨rfl, c1, H1, hm1⟩

/-- An element more that is not open. -/
def onlyM (st : St) (t : Tok) : St := { insM st t 0 with stk := st.stk }

set_option maxHeartbeats 1000000 in
theorem bOnly {w : World} {c : Col} {h : Hd} {st : St} (H : BRep w c h st) {N : Nat} (wf : Wf N st) (hN : N ≤ 10000000) (hl : st.stk.length < 512) (t : Tok) (hs : Src w t.aA (attrCells t.attrs)) (hta : t.attrs.length ≤ 1000) :
    Calls Tryz.prog 46 #[.pointer (some ⟨h.b, 0, none⟩), t.val] w (OkB h (onlyM st t) (.int .i64 st.ns.length) w c) := by
  have hb0 : Below w.heap.size w (w.alloc (.cells t.cells.toArray 24)) := below_alloc (Below.refl _ _) _
  have IN := Lib.hid (bInsert (H.loc hb0) wf hN hl t 0 (hs.loc hb0) hta)
  have PP := Lib.hid (fun (W : World) (c2 : Col) (H2 : BRep W c2 h (insM st t 0)) => sPop H2 (by show (st.stk ++ _).length ≤ _; simp; omega))
  have h0 : (0 : Int) ≤ (st.ns.length : Int) := by omega
  clear H wf hs
  unfold Tok.val Tok.cells
  go_enter Tryz.func46, Tryz.ntmps46
  go_wp2_with fail
  refine IN.out.mono ?_
  rintro e w1 ⟨rfl, c1, H1, hm1⟩
  have q1 : w1.cell? ⟨h.b, 1, none⟩ = some (.pointer (some ⟨h.s, 0, none⟩)) := H1.choose_spec.bc.2.1
  go_wp2_with fail
  refine (PP.out _ _ H1).mono ?_
  rintro e w2 ⟨rfl, c2, H2, hm2⟩
  go_wp2_with fail
  go_ret
  refine ⟨rfl, c2, ?_, (Mv.of_below hb0).trans (hm1.trans hm2)⟩
  have e : ({ insM st t 0 with stk := (insM st t 0).stk.dropLast } : St) = onlyM st t := by unfold onlyM insM; simp
  rw [← e]
  exact H2
theorem Wf.only {N : Nat} {st : St} (wf : Wf N st) (t : Tok) (hta : t.attrs.length ≤ 1000) : Wf (N + 1003) (onlyM st t) :=
  (wf.ins t 0 hta).sub (l := st.stk) fun o ho => List.mem_append_left _ ho

end Go.Proofs.YtjmlkmlbhfkhbaaGreatDoor
