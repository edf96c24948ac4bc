/-
  The builder's Chars and Comment.
  A good state behind a put, a text, a comment.
  The builder's Raw, and Ask where something is asked.
  The arena's Tree (53): a row of all nodes.
-/
import Derived.Test.YtjmlkmlbhfkhbaaGreatDoorHp10
import Derived.Test.YtjmlkmlbhfkhbaaGreatDoorHp09
import Derived.BigQuiet
set_option linter.unusedSimpArgs false
set_option linter.unusedVariables false
namespace Go.Proofs.YtjmlkmlbhfkhbaaGreatDoor
open Go Go.RowKit

def chM (st : St) (s : Str) : St := if plIx st.ns (tgtIx st) = 0 then st else { st with ns := textN st.ns (plIx st.ns (tgtIx st)) s }

set_option maxHeartbeats 2000000 in
theorem bChars {w : World} {c : Col} {h : Hd} {st : St} (H : BRep w c h st) {N : Nat} (wf : Wf N st) (hN : N ≤ 10000000) (hl : st.stk.length ≤ 1000000) (s : Str) (hs : s.size ≤ 1000) :
    Calls Tryz.prog 20 #[.pointer (some ⟨h.b, 0, none⟩), .string s] w (OkB h (chM st s) (.tuple #[]) w c) := by
  obtain ⟨n, t1, t2, t3⟩ := wf.tgt
  obtain ⟨np, p1, p2, p3⟩ := wf.place t1 t3
  have N1 := Lib.hid (bNone H)
  have TG := Lib.hid (bTarget H hl)
  rw [t2] at TG
  have PL := Lib.hid (bPlace H wf.sz (by omega) wf.nf t1)
  rw [p2] at PL
  have TX := Lib.hid (fun (W : World) (hW : Below w.heap.size w W) => aText (H.loc hW) wf hN p1 p3 s hs)
  have PT := Lib.hid (fun (W : World) (hW : Below w.heap.size w W) => (H.loc hW).ptrs)
  have HH := Lib.hid H
  by_cases h0 : plIx st.ns (tgtIx st) = 0
  · have e : chM st s = st := by unfold chM; rw [if_pos h0]
    rw [e]
    rw [h0] at PL
    clear H wf t1 t2 t3 p1 p2 p3 e
    go_enter Tryz.func20, Tryz.ntmps20
    go_wp2_with (first
      | (go_at_call 63; refine N1.out.mono ?_; rintro e w1 ⟨rfl, rfl⟩)
      | (go_at_call 66; refine TG.out.mono ?_; rintro e w1 ⟨rfl, rfl⟩)
      | (go_at_call 28; refine PL.out.mono ?_; rintro e w1 ⟨rfl, hb1⟩))
    go_end0
    exact ⟨rfl, c, HH.out.loc hb1, Mv.of_below hb1⟩
  · have e : chM st s = { st with ns := textN st.ns (plIx st.ns (tgtIx st)) s } := by unfold chM; rw [if_neg h0]
    rw [e]
    generalize plIx st.ns (tgtIx st) = p at *
    have hp0 : (p : Int) > 0 := by omega
    clear H wf t1 t2 t3 p1 p2 p3 e
    go_enter Tryz.func20, Tryz.ntmps20
    go_wp2_with (first
      | (go_at_call 63; refine N1.out.mono ?_; rintro e w1 ⟨rfl, rfl⟩)
      | (go_at_call 66; refine TG.out.mono ?_; rintro e w1 ⟨rfl, rfl⟩)
      | (go_at_call 28; refine PL.out.mono ?_; rintro e w1 ⟨rfl, hb1⟩; obtain ⟨q0, q1, q2⟩ := PT.out _ hb1)
      | (go_at_call 67; refine (TX.out _ hb1).mono ?_; intro e w2 ho; obtain ⟨rfl, c2, H2, m2⟩ := ho.after hb1))
    go_end0
    exact ⟨rfl, c2, H2, m2⟩

/-- The node of a comment. -/
def cmC (s : Str) : NdC := { nd := { kind := 5, name := ⟨#[]⟩, text := s, space := 0, attrs := [], dup := false, parent := 0, content := 0, kids := [], frm := -1, to_ := -1 }, aA := none, acap := 0, kA := none, kcap := 0 }
def cmM (st : St) (s : Str) (p : Nat) : St := { st with ns := hangN (addN st.ns (cmC s).nd) p st.ns.length }

/-- Behind a node is added, a token's box being known. -/
def CmMid (h : Hd) (st1 : St) (w : World) (c : Col) (n : Nat) (s6 : Value) (wx : World) : Prop := s6 = .int .i64 n ∧ ∃ c1, BRep wx c1 h st1 ∧ Mv (Pr h) w c wx c1

set_option maxRecDepth 100000 in
set_option maxHeartbeats 4000000 in
/-- A comment at p: where m says, or at the place of the target. -/
theorem bComment {w : World} {c : Col} {h : Hd} {st : St} (H : BRep w c h st) {N : Nat} (wf : Wf N st) (hN : N ≤ 10000000) (hl : st.stk.length ≤ 1000000) (t : Tok) (ht : t.text.size ≤ 1000) (m : Int) (p : Nat)
    (hm : (m = 0 ∧ p = 0) ∨ (m = -1 ∧ p = plIx st.ns (tgtIx st))) :
    Calls Tryz.prog 21 #[.pointer (some ⟨h.b, 0, none⟩), t.val, .int .i64 m] w (OkB h (cmM st t.text p) (.tuple #[]) w c) := by
  have hb0 : Below w.heap.size w (w.alloc (.cells t.cells.toArray 24)) := below_alloc (Below.refl _ _) _
  have N1 := Lib.hid (bNone (H.loc hb0))
  obtain ⟨q0, q1, q2⟩ := (H.loc hb0).ptrs
  have hlb := H.choose_spec.hb.lt
  have AD := Lib.hid (fun (W : World) (hW : Below w.heap.size w W) => aAdd (H.loc hW) (cmC t.text) (.inr (.inr (.inr rfl))) (by have := wf.sz.1; omega) (by simp [cmC]) ⟨fun _ => rfl, fun _ e => by cases e⟩ wf.sz.2.1)
  have W1 : Wf (N + 1002) { st with ns := addN st.ns (cmC t.text).nd } := wf.add (by omega) (by simp [cmC]) (by simp [cmC]; omega)
  obtain ⟨k, n1⟩ := addN_new st.ns (cmC t.text).nd
  obtain ⟨n, t1, t2, t3⟩ := wf.tgt
  have t1' : (addN st.ns (cmC t.text).nd)[tgtIx st]? = some n := by rw [addN_old (List.getElem?_eq_some_iff.1 t1).1]; exact t1
  have BOX := (HB.new w 24 t.cells).tok
  unfold Tok.val
  unfold Tok.cells at *
  rcases hm with ⟨rfl, rfl⟩ | ⟨rfl, rfl⟩
  · obtain ⟨nd0, hnd0⟩ : ∃ nd0, st.ns[0]? = some nd0 := ⟨_, List.getElem?_eq_getElem (by have := wf.sz.2.1; omega)⟩
    have hl0 : 0 < st.ns.length := (List.getElem?_eq_some_iff.1 hnd0).1
    have p1' : (addN st.ns (cmC t.text).nd)[0]? = some nd0 := by rw [addN_old hl0]; exact hnd0
    have AP := Lib.hid (fun (W : World) (c2 : Col) (H2 : BRep W c2 h { st with ns := addN st.ns (cmC t.text).nd }) => aAppend H2 p1' n1 rfl hl0 (show (addN st.ns (cmC t.text).nd).length ≤ 1000000000 by have : (addN st.ns (cmC t.text).nd).length ≤ N + 1002 := W1.sz.1; omega) (by have := (W1.sz.2.2 0 nd0 p1').2.1; omega) (.inl (wf.doc nd0 hnd0)) (.inr (.inr (.inr rfl))) W1.up)
    obtain ⟨b0, b1, b2, b3, b4, b5, b6, b7, b8⟩ := BOX
    have hnn : (0 : Int) ≤ (st.ns.length : Int) := by omega
    clear wf W1 n1 t1 t2 t3 t1' hnd0 p1' H hl0
    go_enter Tryz.func21, Tryz.ntmps21
    go_upto_region 2 with (go_at_call 63; refine N1.out.mono ?_; rintro e w1 ⟨rfl, rfl⟩)
    go_cut [6] (fun s6 wx => CmMid h { st with ns := addN st.ns (cmC t.text).nd } w c st.ns.length s6 wx)
    case first =>
      go_region_with (go_at_call 68; refine (AD.out _ (below_drew hb0)).mono ?_; intro e w2 ho; obtain ⟨rfl, c2, H2, m2⟩ := ho.after (below_drew hb0))
      all_goals
        go_wp2_with fail
        go_meet
        case rel => exact ⟨rfl, c2, H2, m2⟩
    case rest =>
      obtain ⟨rfl, c1, H1, m1⟩ := hcut
      obtain ⟨r0, r1, r2⟩ := H1.ptrs
      clear q0 q1 q2 b0 b1 b2 b3 b4 b5 b6 b7 b8
      go_wp2_with fail
      refine (AP.out _ _ H1).mono ?_
      rintro e w2 ⟨rfl, c2, H2, m2⟩
      go_wp2_with fail
      go_end0
      exact ⟨rfl, c2, H2, m1.trans m2⟩
  · obtain ⟨np, p1, p2, p3⟩ := wf.place t1 t3
    have hpl : plIx st.ns (tgtIx st) < st.ns.length := (List.getElem?_eq_some_iff.1 p1).1
    have p1' : (addN st.ns (cmC t.text).nd)[plIx st.ns (tgtIx st)]? = some np := by rw [addN_old hpl]; exact p1
    have TG := Lib.hid (fun (W : World) (c2 : Col) (H2 : BRep W c2 h { st with ns := addN st.ns (cmC t.text).nd }) => bTarget H2 (show st.stk.length ≤ 1000000 from hl))
    rw [show topD ({ st with ns := addN st.ns (cmC t.text).nd } : St).stk = (tgtIx st : Int) from t2] at TG
    have PT := Lib.hid (fun (W : World) (c2 : Col) (H2 : BRep W c2 h { st with ns := addN st.ns (cmC t.text).nd }) => bPut H2 W1.sz (by omega) wf.nf t1' p2 p1' n1 rfl hpl p3 (.inr (.inr (.inr rfl))) W1.up)
    obtain ⟨b0, b1, b2, b3, b4, b5, b6, b7, b8⟩ := BOX
    have hnn : (0 : Int) ≤ (st.ns.length : Int) := by omega
    clear wf W1 n1 t1 t2 t3 t1' p1' H hpl p1 p2 p3
    go_enter Tryz.func21, Tryz.ntmps21
    go_upto_region 2 with (go_at_call 63; refine N1.out.mono ?_; rintro e w1 ⟨rfl, rfl⟩)
    go_cut [6] (fun s6 wx => CmMid h { st with ns := addN st.ns (cmC t.text).nd } w c st.ns.length s6 wx)
    case first =>
      go_region_with (go_at_call 68; refine (AD.out _ (below_drew hb0)).mono ?_; intro e w2 ho; obtain ⟨rfl, c2, H2, m2⟩ := ho.after (below_drew hb0))
      all_goals
        go_wp2_with fail
        go_meet
        case rel => exact ⟨rfl, c2, H2, m2⟩
    case rest =>
      obtain ⟨rfl, c1, H1, m1⟩ := hcut
      clear q0 q1 q2 b0 b1 b2 b3 b4 b5 b6 b7 b8
      go_wp2_with (go_at_call 66; refine (TG.out _ _ H1).mono ?_; rintro e w1 ⟨rfl, rfl⟩)
      refine (PT.out _ _ H1).mono ?_
      rintro e w2 ⟨rfl, c2, H2, m2⟩
      go_wp2_with fail
      go_end0
      exact ⟨rfl, c2, H2, m1.trans m2⟩
end Go.Proofs.YtjmlkmlbhfkhbaaGreatDoor
namespace Go.Proofs.YtjmlkmlbhfkhbaaGreatDoor
open Go Go.RowKit

theorem Wf.put {N : Nat} {st : St} (wf : Wf N st) {nd : Nd} (ha : nd.attrs.length ≤ 1000) (ht : nd.text.size ≤ 1000) {p : Nat} (hp : p < st.ns.length) : Wf (N + 1003) { st with ns := hangN (addN st.ns nd) p st.ns.length } := by
  have W1 : Wf (N + 1002) { st with ns := addN st.ns nd } := wf.add (by omega) (by omega) (by omega)
  exact W1.hang hp (by have := (addN_len st.ns nd).1; show st.ns.length < (addN st.ns nd).length; omega)
theorem Wf.set_ {N M : Nat} {st : St} (wf : Wf N st) (hM : N ≤ M) {j : Nat} {n m : Nd} (hn : st.ns[j]? = some n) (e1 : m.kind = n.kind) (e2 : m.name = n.name) (e3 : m.space = n.space) (e4 : m.kids = n.kids) (e5 : m.parent = n.parent) (e6 : m.content = n.content)
    (ha : m.attrs.length ≤ M) (ht : m.text.size ≤ M) : Wf M { st with ns := st.ns.set j m } := by
  have hj := (List.getElem?_eq_some_iff.1 hn).1
  have back : ∀ (i : Nat) (q : Nd), (st.ns.set j m)[i]? = some q → (i = j ∧ q = m) ∨ st.ns[i]? = some q := by
    intro i q hq
    by_cases hij : j = i
    · subst hij
      rw [List.getElem?_set_self hj] at hq
      exact .inl ⟨rfl, (Option.some.inj hq).symm⟩
    · rw [List.getElem?_set_ne hij] at hq
      exact .inr hq
  have K := (quiet_set wf.kid hn e1 e2 e3 e4).keep
  have w2 := wf.more hM
  refine ⟨⟨by simpa using w2.sz.1, by simpa using w2.sz.2.1, ?_⟩, ?_, ?_, ?_, ?_, ?_, w2.nf⟩
  · intro i q hq
    rcases back i q hq with ⟨rfl, rfl⟩ | hq
    · exact ⟨ha, by rw [e4]; exact (w2.sz.2.2 i n hn).2.1, ht⟩
    · exact w2.sz.2.2 i q hq
  · intro k o ho
    obtain ⟨i, q, h1, h2, h3, h4, h5⟩ := w2.op k o ho
    obtain ⟨q', k1, k2, k3, k4⟩ := K.nd i q h2
    exact ⟨i, q', h1, k1, k2.trans h3, k4.trans h4, k3.trans h5⟩
  · intro i q hq
    rcases back i q hq with ⟨rfl, rfl⟩ | hq
    · rw [e5]; exact w2.up i n hn
    · exact w2.up i q hq
  · intro q hq
    rcases back 0 q hq with ⟨h0, rfl⟩ | hq
    · subst h0; rw [e1]; exact w2.doc n hn
    · exact w2.doc q hq
  · intro i q hq hh
    have fin : ∀ (x : Int), (∃ (r : Nat) (nc : Nd), x = (r : Int) ∧ st.ns[r]? = some nc ∧ nc.kind = 6) → ∃ (r : Nat) (nc : Nd), x = (r : Int) ∧ (st.ns.set j m)[r]? = some nc ∧ nc.kind = 6 := by
      rintro x ⟨r, nc, h1, h2, h3⟩
      obtain ⟨q', k1, k2, -⟩ := K.nd r nc h2
      exact ⟨r, q', h1, k1, k2.trans h3⟩
    rcases back i q hq with ⟨rfl, rfl⟩ | hq
    · rw [e6]
      exact fin _ (w2.cont i n hn (by rw [← htmlN_congr e1 e3 e2]; exact hh))
    · exact fin _ (w2.cont i q hq hh)
  · intro i q hq k hk
    have : (st.ns.set j m).length = st.ns.length := by simp
    show 0 ≤ k ∧ k < ((st.ns.set j m).length : Int)
    rw [this]
    rcases back i q hq with ⟨rfl, rfl⟩ | hq
    · rw [e4] at hk; exact w2.kid i n hn k hk
    · exact w2.kid i q hq k hk
end Go.Proofs.YtjmlkmlbhfkhbaaGreatDoor
namespace Go.Proofs.YtjmlkmlbhfkhbaaGreatDoor
open Go Go.RowKit

/-- A new ask is laid. -/
theorem setAsk {w : World} {c : Col} {h : Hd} {x : Sh} {st : St} (H : BRepX w c h x st) (s : Int) (n : Str) :
    BRepX ((w.alloc (.cells #[.int .i64 s, .string n] 92)).setCell ⟨h.b, 12, none⟩ (.pointer (some ⟨w.heap.size, 0, none⟩))) (paint c w.heap.size (h.sd, 11, 0)) h { x with kA := some ⟨w.heap.size, 0, none⟩ } { st with ask := some (s, n) } ∧
      Mv (Pr h) w c ((w.alloc (.cells #[.int .i64 s, .string n] 92)).setCell ⟨h.b, 12, none⟩ (.pointer (some ⟨w.heap.size, 0, none⟩))) (paint c w.heap.size (h.sd, 11, 0)) := by
  have s1 : Mv (Pr h) w c (w.alloc (.cells #[.int .i64 s, .string n] 92)) (paint c w.heap.size (h.sd, 11, 0)) := Mv.alloc_paint w c _ _
  have k1 : ∀ p i, p ≠ 11 → Kp (h.sd, p, i) w c (w.alloc (.cells #[.int .i64 s, .string n] 92)) (paint c w.heap.size (h.sd, 11, 0)) := fun p i hp => kp_alloc_paint w c _ _ _
  have hb1 : Blk (w.alloc (.cells #[.int .i64 s, .string n] 92)) (paint c w.heap.size (h.sd, 11, 0)) (h.sd, 1, 0) h.b 36 (bCells h x st) := H.hb.kp (kp_alloc_paint w c _ _ _)
  have nb : Blk (w.alloc (.cells #[.int .i64 s, .string n] 92)) (paint c w.heap.size (h.sd, 11, 0)) (h.sd, 11, 0) w.heap.size 92 [.int .i64 s, .string n] := Blk.new w c (h.sd, 11, 0) 92 [.int .i64 s, .string n]
  generalize hw1 : w.alloc (.cells #[.int .i64 s, .string n] 92) = w1 at *
  generalize hc1 : paint c w.heap.size (h.sd, 11, 0) = c1 at *
  have k2 : ∀ p i, p ≠ 1 → Kp (h.sd, p, i) w1 c1 (w1.setCell ⟨h.b, 12, none⟩ (.pointer (some ⟨w.heap.size, 0, none⟩))) c1 := fun p i hp => kp_setCell (by rw [hb1.1]; simp; omega) _
  have s2 : Mv (Pr h) w1 c1 (w1.setCell ⟨h.b, 12, none⟩ (.pointer (some ⟨w.heap.size, 0, none⟩))) c1 := Mv.setCell (show (c1 h.b).1 = h.sd by rw [hb1.1]) _
  have k : ∀ p i, p ≠ 11 → p ≠ 1 → Kp (h.sd, p, i) w c (w1.setCell ⟨h.b, 12, none⟩ (.pointer (some ⟨w.heap.size, 0, none⟩))) c1 := fun p i h1 h2 => (k1 p i h1).trans s1.size (k2 p i h2)
  have sm := s1.trans s2
  refine ⟨⟨sm.gd H.gd, H.sd, hb1.set_ 12 _, H.ha.kp (k _ _ (by decide) (by decide)), ?_, H.ns, H.hs.kp (k _ _ (by decide) (by decide)), H.stk.kp (k _ _ (by decide) (by decide)), H.hl.kp (k _ _ (by decide) (by decide)), H.fmt.kp (k _ _ (by decide) (by decide)), H.modes.kp (k _ _ (by decide) (by decide)), ?_⟩, sm⟩
  · exact ⟨H.nodes.row.kp (k _ _ (by decide) (by decide)), fun i y hy => ⟨(H.nodes.each i y hy).1.kp (k _ _ (by decide) (by decide)), (H.nodes.each i y hy).2.kp (k _ _ (by decide) (by decide))⟩⟩
  · exact ⟨w.heap.size, rfl, nb.kp (k2 _ _ (by decide))⟩

theorem setCell_alloc (w : World) (o : Obj) (a : Addr) (v : Value) (h : a.block < w.heap.size) : (w.alloc o).setCell a v = (w.setCell a v).alloc o := by
  unfold World.setCell World.alloc
  simp only
  congr 1
  apply Array.ext
  · simp
  · intro i h1 h2
    simp only [Array.getElem_modify, Array.getElem_push]
    split <;> split <;> simp_all <;> omega

def rawM (st : St) (t : Tok) (s : Int) : St := { insM st t 0 with ask := some (s, t.name), back := st.mode, mode := 7 }

set_option maxRecDepth 100000 in
set_option maxHeartbeats 4000000 in
theorem bRaw {w : World} {c : Col} {h : Hd} {st : St} (H : BRep w c h st) {N : Nat} (wf : Wf N st) (hN : N ≤ 10000000) (hl : st.stk.length < 512) (t : Tok) (s : Int) (hs : Src w t.aA (attrCells t.attrs)) (hta : t.attrs.length ≤ 1000) :
    Calls Tryz.prog 22 #[.pointer (some ⟨h.b, 0, none⟩), t.val, .int .i64 s] w (OkB h (rawM st t s) (.tuple #[]) w c) := by
  have hb0 : Below w.heap.size w (w.alloc (.cells t.cells.toArray 24)) := below_alloc (Below.refl _ _) _
  have N1 := Lib.hid (bNone (H.loc hb0))
  have IN := Lib.hid (bInsert (H.loc hb0) wf hN hl t 0 (hs.loc hb0) hta)
  have BX := (HB.new w 24 t.cells)
  have hcb : (c w.heap.size).1 = 0 := H.gd _ (Nat.le_refl _)
  have hsd := H.sd
  have BOX : Hid (∀ W C, Mv (Pr h) (w.alloc (.cells t.cells.toArray 24)) c W C → HB W w.heap.size 24 t.cells) := Lib.hid fun W C hm => BX.mvk hm (fun e => hsd (by unfold Pr at e; rw [← e, hcb]))
  clear H wf hs
  obtain ⟨b0, b1, b2, b3, b4, b5, b6, b7, b8⟩ := BX.tok
  unfold Tok.val
  unfold Tok.cells at *
  go_enter Tryz.func22, Tryz.ntmps22
  go_wp2_with (go_at_call 63; refine N1.out.mono ?_; rintro e w1 ⟨rfl, rfl⟩)
  refine IN.out.mono ?_
  rintro e w1 ⟨rfl, c1, H1, m1⟩
  have T1 := (BOX.out _ _ m1).tok
  obtain ⟨d0, d1, -⟩ := T1
  obtain ⟨X, X1⟩ := H1
  have hb1 := X1.bc
  have q12 := hb1.2.2.2.2.2.2.2.2.2.2.2.2.1
  have qf := X1.hb.frozen 12
  have hlb := X1.hb.lt
  have SA := Lib.hid (setAsk X1 s t.name)
  have hzb : w.heap.size < w1.heap.size := by
    have := (BOX.out _ _ m1).lt
    exact this
  have hcm := setCell_alloc w1 (.cells #[.int .i64 s, .string t.name] 92) ⟨h.b, 12, none⟩ (.pointer (some ⟨w1.heap.size, 0, none⟩)) hlb
  have SA2 := SA.out
  rw [hcm] at SA2
  obtain ⟨S1, S2⟩ := SA2
  have KP := Lib.hid (bKeep ⟨_, S1⟩)
  have M2 := Lib.hid (m1.trans S2)
  clear b0 b1 b2 b3 b4 b5 b6 b7 b8 hb1 X1 hcm S1 S2
  go_wp2_with fail
  refine KP.out.mono ?_
  rintro e w2 ⟨rfl, c2, H2, m2⟩
  obtain ⟨Y, Y1⟩ := H2
  obtain ⟨e0, e1, e2, e3, -⟩ := Y1.bc
  have f3 := Y1.hb.frozen 3
  have FIN := Lib.hid (And.intro (Y1.setB 3 (.int .i64 7) (rawM st t s) Y rfl rfl rfl rfl rfl rfl rfl ⟨rfl, rfl⟩ rfl) (Y1.mvB 3 (.int .i64 7)))
  have hl2 := Y1.hb.lt
  clear Y1 d0 d1 q12 qf
  go_wp2_with fail
  go_end0
  exact ⟨rfl, c2, ⟨_, FIN.out.1⟩, (Mv.of_below hb0).trans (M2.out.trans (m2.trans FIN.out.2))⟩
end Go.Proofs.YtjmlkmlbhfkhbaaGreatDoor
namespace Go.Proofs.YtjmlkmlbhfkhbaaGreatDoor
open Go Go.RowKit

/-- Kids that can be read, in a block of nobody's. -/
def KAt (w : World) (c : Col) (K : Option Addr) (l : List Int) : Prop := l ≠ [] → ∃ g, K = some ⟨g, 0, none⟩ ∧ (c g).1 = 0 ∧ ∀ (j : Nat) (k : Int), l[j]? = some k → w.cell? ⟨g, j, none⟩ = some (.int .i64 k)
theorem KAt.mv {S : Key → Prop} {w w' : World} {c c' : Col} {K : Option Addr} {l : List Int} (H : KAt w c K l) (hm : Mv S w c w' c') (hS : ∀ k, S k → k.1 ≠ 0) : KAt w' c' K l := by
  intro hl
  obtain ⟨g, h1, h2, h3⟩ := H hl
  have hlt : g < w.heap.size := by
    cases l with
    | nil => exact absurd rfl hl
    | cons x r => exact block_lt_of_cell (h3 0 x rfl)
  refine ⟨g, h1, by rw [hm.ext g hlt]; exact h2, fun j k hk => ?_⟩
  rw [World.cell?_of_block (w := w) (hm.blk g hlt (fun hs => hS _ hs h2))]
  exact h3 j k hk
theorem KAt.new {w w1 : World} {c : Col} {K : Option Addr} {l : List Int} {cap : Nat} (hg : Good w c) (h : RowNew w.heap.size w1 3 1 K l.length cap (intCells l)) : KAt w1 c K l := by
  intro hl
  have hn : 0 < l.length := List.length_pos_iff.2 hl
  obtain ⟨g, h1, h2, h3, h4, h5⟩ := h.at_ hn
  refine ⟨g, h1, hg g ?_, fun j k hk => h4 j _ (by unfold intCells; rw [List.getElem?_map, hk]; rfl)⟩
  unfold newCol at h2
  split at h2
  · assumption
  · cases h2

/-- A row of all nodes. -/
def TreeAt (w : World) (c : Col) (key : Key) (A : Option Addr) (cap : Nat) (ns : List Nd) : Prop :=
  ∃ cs : List NdC, cs.map (·.nd) = ns ∧ RowOk w c key 58 11 A cs.length cap (cs.flatMap NdC.cells) ∧ ∀ (i : Nat) (x : NdC), cs[i]? = some x → KAt w c x.kA x.nd.kids
theorem TreeAt.mv {S : Key → Prop} {w w' : World} {c c' : Col} {key : Key} {A : Option Addr} {cap : Nat} {ns : List Nd} (H : TreeAt w c key A cap ns) (hm : Mv S w c w' c') (hS : ∀ k, S k → k.1 ≠ 0) (hk : ¬ S key) : TreeAt w' c' key A cap ns := by
  obtain ⟨cs, h1, h2, h3⟩ := H
  exact ⟨cs, h1, h2.kp (hm.kp hk), fun i x hx => (h3 i x hx).mv hm hS⟩
/-- What is read of a node. -/
theorem TreeAt.node {w : World} {c : Col} {key : Key} {A : Option Addr} {cap : Nat} {ns : List Nd} (H : TreeAt w c key A cap ns) {i : Nat} {n : Nd} (hi : ns[i]? = some n) :
    ∃ (g : Nat) (x : NdC), A = some ⟨g, 0, none⟩ ∧ x.nd = n ∧ (∀ j, j < 11 → w.cell? ⟨g, i * 11 + j, none⟩ = x.cells[j]?) ∧ KAt w c x.kA n.kids := by
  obtain ⟨cs, h1, h2, h3⟩ := H
  rw [← h1, List.getElem?_map] at hi
  cases hx : cs[i]? with
  | none => rw [hx] at hi; cases hi
  | some x =>
    rw [hx] at hi
    obtain rfl := Option.some.inj hi
    have hlt := (List.getElem?_eq_some_iff.1 hx).1
    obtain ⟨g, e1, e2, e3, e4, e5⟩ := h2.at_ (by omega)
    refine ⟨g, x, e1, rfl, fun j hj => ?_, h3 i x hx⟩
    have hf := flat_at cs i j x hx hj
    have hxj : j < x.cells.length := by rw [NdC.cells_len]; exact hj
    rw [List.getElem?_eq_getElem hxj] at hf ⊢
    exact e4 _ _ hf
theorem TreeAt.len {w : World} {c : Col} {key : Key} {A : Option Addr} {cap : Nat} {ns : List Nd} (H : TreeAt w c key A cap ns) : ns.length ≤ cap := by
  obtain ⟨cs, h1, h2, h3⟩ := H
  rw [← h1, List.length_map]
  exact h2.le

set_option maxRecDepth 100000 in
set_option maxHeartbeats 4000000 in
theorem aTree {w : World} {c : Col} {h : Hd} {st : St} (H : BRep w c h st) {N : Nat} (hs : Sz N st) (hN : N ≤ 10000000) {key : Key} (hk : key.1 ≠ h.sd) (hk0 : key.1 ≠ 0) :
    Calls Tryz.prog 53 #[.pointer (some ⟨h.a, 0, none⟩)] w fun e w' => ∃ A cap c', e = .returned (.slice A st.ns.length cap) ∧ TreeAt w' c' key A cap st.ns ∧ Mv (· = key) w c w' c' := by
  have LEN := Lib.hid (by
    obtain ⟨X, HX⟩ := H
    have hl : X.cs.length = st.ns.length := by rw [← HX.ns]; simp
    have := aLen (HX.av (by have := hs.1; omega))
    rw [hl] at this
    exact this)
  have HK : Hid (∀ W C, Mv (· = key) w c W C → BRep W C h st) := Lib.hid fun W C hm => H.mv hm (fun p i e => hk (by rw [← e]))
  have HZ := Lib.hid hs
  have hlen := hs.1
  obtain ⟨i0, hi0, hz0, hz1, hz2⟩ := info_parts info58
  have HG := Lib.hid H.gd
  clear H hs
  go_enter Tryz.func53, Tryz.ntmps53
  go_wp2_with (go_at_call 95; refine LEN.out.mono ?_; rintro e w2 ⟨rfl, rfl⟩)
  go_loopw [3, 7] (fun a t wr => ∃ (cs : List NdC) (A : Option Addr) (cap : Nat) (c' : Col), a = .slice A cs.length cap ∧ t = .int .i64 cs.length ∧ cs.length ≤ st.ns.length ∧ Hid (cs.map (·.nd) = st.ns.take cs.length ∧ RowOk wr c' key 58 11 A cs.length cap (cs.flatMap NdC.cells) ∧ (∀ (i : Nat) (x : NdC), cs[i]? = some x → KAt wr c' x.kA x.nd.kids) ∧ Mv (· = key) w c wr c')) (fun _ t _ => st.ns.length - (intOf t).toNat)
  case atStart => exact ⟨[], none, 0, c, rfl, rfl, Nat.zero_le _, Lib.hid ⟨by simp, by exact RowOk.none_, fun i x hx => by simp at hx, Mv.refl _ _ _⟩⟩
  case round =>
    obtain ⟨cs, A, cap, c1, rfl, rfl, hle, hR⟩ := hrel
    by_cases hlt : cs.length < st.ns.length
    · have h1 : (cs.length : Int) < (st.ns.length : Int) := by omega
      obtain ⟨n, hn⟩ : ∃ n, st.ns[cs.length]? = some n := ⟨_, List.getElem?_eq_getElem hlt⟩
      have H1 := HK.out _ _ hR.out.2.2.2
      have ND := Lib.hid (aNodeB H1 HZ.out (by omega) hn)
      have hg1 := Lib.hid H1.gd
      have HNN := Lib.hid hn
      have hw : IntKind.i64.wrap ((cs.length : Int) + 1) = (cs.length : Int) + 1 := by have := wrap_small (L := cs.length + 1) (by omega); rwa [show (((cs.length + 1 : Nat) : Int)) = (cs.length : Int) + 1 by omega] at this
      clear hn H1 hlt
      go_wp2_with fail
      refine ND.out.mono ?_
      rintro e w2 ⟨A2, p1, K2, p2, rfl, hb2, -, hK⟩
      have KY : Hid (KAt w2 c1 K2 n.kids) := Lib.hid (KAt.new hg1.out hK)
      unfold ndVal
      clear hK
      go_wp2_with (at_builtin; refine wpList_append_row _ c1 key rfl _ _ 71 rfl 58 i0 _ 11 136 Tryz.underlying71 hi0 hz0 hz1 hz2 rfl (by decide) _ cs.length cap (cs.flatMap NdC.cells) rfl (by exact hR.out.2.1.kp (kp_below (below_alloc hb2 _))) _ 1 1 (NdC.cells { nd := n, aA := A2, acap := p1, kA := K2, kcap := p2 }) rfl (by rfl) (by simp) (by exact news_new _ _ _) (NdC.one _) (by unfold maxLen; omega) (by omega) ?_; intro A3 cp3 w3 c3 hrow3 hmv3)
      obtain ⟨y, hy⟩ : ∃ y : NdC, y = { nd := n, aA := A2, acap := p1, kA := K2, kcap := p2 } := ⟨_, rfl⟩
      have HY : Hid (y.nd = n ∧ y.kA = K2) := Lib.hid (by rw [hy]; exact ⟨rfl, rfl⟩)
      rw [← hy] at hrow3
      clear hy
      go_roundw
      case rel =>
        have m3 : Mv (· = key) wr c1 w3 c3 := (Mv.of_below (below_alloc hb2 _)).trans hmv3
        refine ⟨cs ++ [y], A3, cp3, c3, by simp, by simp, by simp; omega, Lib.hid ⟨?_, by simpa using hrow3, ?_, hR.out.2.2.2.trans m3⟩⟩
        · rw [List.map_append, hR.out.1, List.length_append, List.length_singleton, List.take_add_one, HNN.out, ← HY.out.1]
          rfl
        · intro i x hx
          by_cases hi : i < cs.length
          · rw [List.getElem?_append_left hi] at hx
            exact (hR.out.2.2.1 i x hx).mv m3 (fun k e => by rw [e]; exact hk0)
          · rw [List.getElem?_append_right (by omega)] at hx
            have h0 : i - cs.length = 0 := by
              have := (List.getElem?_eq_some_iff.1 hx).1
              simp at this; omega
            rw [h0] at hx
            obtain rfl : y = x := by simpa using hx
            rw [HY.out.1, HY.out.2]
            exact KY.out.mv ((Mv.of_below (below_alloc (Below.refl _ _) _)).trans hmv3) (fun k e => by rw [e]; exact hk0)
      case measure => simp [intOf]; omega
    · have h1 : ¬ (cs.length : Int) < (st.ns.length : Int) := by omega
      have hl : cs.length = st.ns.length := by omega
      have HL := Lib.hid hl
      go_wp2_with fail
      have T : TreeAt wr c1 key A cap st.ns := ⟨cs, by rw [hR.out.1, HL.out, List.take_length], hR.out.2.1, hR.out.2.2.1⟩
      go_ret
      first
        | exact ⟨A, cap, c1, rfl, T, hR.out.2.2.2⟩
        | exact ⟨A, cap, rfl, c1, T, hR.out.2.2.2⟩
end Go.Proofs.YtjmlkmlbhfkhbaaGreatDoor
