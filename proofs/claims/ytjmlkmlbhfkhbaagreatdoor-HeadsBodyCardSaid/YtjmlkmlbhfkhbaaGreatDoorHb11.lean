/-
  The shapes of a state that heads' steps keep.
  Where a shape's target and place lie.
  A shape where only texts, comments and attributes come.
  The builder's Chars and Comment.
  A good state behind a put, a text, a comment.
  The builder's Raw, and Ask where something is asked.
-/
import Derived.Test.YtjmlkmlbhfkhbaaGreatDoorHb10
import Derived.BigQuiet
set_option linter.unusedSimpArgs false
set_option linter.unusedVariables false
namespace Go.Proofs.YtjmlkmlbhfkhbaaGreatDoor
open Go Go.RowKit

abbrev mHtml : Str := ⟨#[104, 116, 109, 108]⟩
abbrev mHead : Str := ⟨#[104, 101, 97, 100]⟩
abbrev mBody : Str := ⟨#[98, 111, 100, 121]⟩

def IsEl (ns : List Nd) (a : Nat) (nm : Str) : Prop := ∃ n, ns[a]? = some n ∧ n.kind = 3 ∧ n.name = nm ∧ n.space = 0
theorem IsEl.keep {ns ns' : List Nd} {a : Nat} {nm : Str} (h : IsEl ns a nm) (k : Keep ns ns') : IsEl ns' a nm := by
  obtain ⟨n, h1, h2, h3, h4⟩ := h
  obtain ⟨m, k1, k2, k3, k4⟩ := k.nd a n h1
  exact ⟨m, k1, k2.trans h2, k3.trans h3, k4.trans h4⟩
theorem IsEl.lt {ns : List Nd} {a : Nat} {nm : Str} (h : IsEl ns a nm) : a < ns.length := by
  obtain ⟨n, h1, -⟩ := h
  exact (List.getElem?_eq_some_iff.1 h1).1

/-- The document's one element kid is html, and its element kids are l. -/
structure Trunk (ns : List Nd) (a : Nat) (l : List Int) : Prop where
  doc : ek ns 0 = [(a : Int)]
  html : IsEl ns a mHtml
  kids : ek ns a = l
  pos : 0 < a
theorem Trunk.quiet {ns ns' : List Nd} {a : Nat} {l : List Int} (h : Trunk ns a l) (k : Quiet ns ns') : Trunk ns' a l :=
  ⟨(k.eks 0 (by have := h.html.lt; have := h.pos; omega)).trans h.doc, h.html.keep k.keep, (k.eks a h.html.lt).trans h.kids, h.pos⟩
/-- An element comes elsewhere. -/
theorem Trunk.grown {ns ns' : List Nd} {a p : Nat} {l : List Int} {nm : Str} {sp : Int} (h : Trunk ns a l) (k : Grown ns ns' p nm sp) (h0 : p ≠ 0) (ha : p ≠ a) : Trunk ns' a l :=
  ⟨(k.eks 0 (by have := h.html.lt; have := h.pos; omega) (Ne.symm h0)).trans h.doc, h.html.keep k.keep, (k.eks a h.html.lt (Ne.symm ha)).trans h.kids, h.pos⟩
/-- An element comes into html. -/
theorem Trunk.into {ns ns' : List Nd} {a : Nat} {l : List Int} {nm : Str} {sp : Int} (h : Trunk ns a l) (k : Grown ns ns' a nm sp) : Trunk ns' a (l ++ [(ns.length : Int)]) :=
  ⟨(k.eks 0 (by have := h.html.lt; have := h.pos; omega) (by have := h.pos; omega)).trans h.doc, h.html.keep k.keep, by rw [k.at_, h.kids], h.pos⟩

/-- An open element that is none of the trunk's and no template. -/
structure Loose (ns : List Nd) (a : Nat) (o : OpE) : Prop where
  node : ∃ i : Nat, o.node = (i : Int) ∧ i ≠ a ∧ 0 < i
  nm : eqS o.name nTemplate = false

/-- The stack of the modes in head, in head noscript, after head. -/
def Rest (ns : List Nd) (m : Int) (a b : Nat) (l : List OpE) : Prop :=
  (m = 3 ∧ l = [⟨(a : Int), 0, mHtml⟩, ⟨(b : Int), 0, mHead⟩]) ∨
  (m = 4 ∧ ∃ x, Loose ns a x ∧ l = [⟨(a : Int), 0, mHtml⟩, ⟨(b : Int), 0, mHead⟩, x]) ∨
  (m = 5 ∧ l = [⟨(a : Int), 0, mHtml⟩])

/-- The shape of a state. -/
inductive Shp (st : St) : Prop where
  | start (hm : st.mode = 0 ∨ st.mode = 1) (hs : st.stk = []) (he : ek st.ns 0 = [])
  | html (a : Nat) (hm : st.mode = 2) (hs : st.stk = [⟨(a : Int), 0, mHtml⟩]) (ht : Trunk st.ns a [])
  | head (a b : Nat) (hr : Rest st.ns st.mode a b st.stk) (ht : Trunk st.ns a [(b : Int)]) (hb : IsEl st.ns b mHead) (hab : a ≠ b) (hh : st.head = (b : Int))
  | raw (a b : Nat) (l : List OpE) (r : OpE) (hm : st.mode = 7) (hr : Rest st.ns st.back a b l) (hs : st.stk = l ++ [r]) (hl : Loose st.ns a r) (ht : Trunk st.ns a [(b : Int)]) (hb : IsEl st.ns b mHead) (hab : a ≠ b) (hh : st.head = (b : Int))
  | body (a b d : Nat) (hm : st.mode = 6) (hs : st.stk = [⟨(a : Int), 0, mHtml⟩, ⟨(d : Int), 0, mBody⟩]) (ht : Trunk st.ns a [(b : Int), (d : Int)]) (hb : IsEl st.ns b mHead) (hd : IsEl st.ns d mBody)
  | tmpl (hm : st.mode = 15)

theorem textN_quiet {N : Nat} {st : St} (wf : Wf N st) {p : Nat} (hp : p < st.ns.length) (s : Str) : Quiet st.ns (textN st.ns p s) := by
  unfold textN
  split
  · exact Quiet.refl _
  · split
    · exact Quiet.refl _
    · rename_i np hnp
      split
      · exact quiet_put wf.kid hp (by simp [txtNd])
      · rename_i k hk
        split
        · exact Quiet.refl _
        · rename_i nl hnl
          split
          · exact quiet_set wf.kid hnl rfl rfl rfl rfl
          · exact quiet_put wf.kid hp (by simp [txtNd])
end Go.Proofs.YtjmlkmlbhfkhbaaGreatDoor
namespace Go.Proofs.YtjmlkmlbhfkhbaaGreatDoor
open Go Go.RowKit

theorem pl_top {N : Nat} {st : St} (wf : Wf N st) {l : List OpE} {o : OpE} (hs : st.stk = l ++ [o]) (hnt : eqS o.name nTemplate = false) {i : Nat} (ho : o.node = (i : Int)) :
    tgtIx st = i ∧ plIx st.ns i = i ∧ i < st.ns.length := by
  have hk : st.stk[st.stk.length - 1]? = some o := by rw [hs]; simp
  obtain ⟨j, n, e1, e2, e3, e4, e5⟩ := wf.op _ o hk
  obtain rfl : i = j := by rw [ho] at e1; omega
  refine ⟨?_, ?_, (List.getElem?_eq_some_iff.1 e2).1⟩
  · unfold tgtIx topD
    rw [topOf_some hk, ho, if_neg (by omega)]
    omega
  · unfold plIx
    rw [e2]
    simp only
    have : htmlN n [nTemplate] = false := by
      unfold htmlN inS
      rw [e5]
      simp [hnt]
    unfold placeOf
    rw [this]
    simp
theorem pl_nil {N : Nat} {st : St} (wf : Wf N st) (hs : st.stk = []) : tgtIx st = 0 ∧ plIx st.ns 0 = 0 ∧ 0 < st.ns.length := by
  have hl : 0 < st.ns.length := by have := wf.sz.2.1; omega
  refine ⟨?_, ?_, hl⟩
  · unfold tgtIx topD
    rw [hs, topOf_nil]
    rfl
  · unfold plIx
    rw [List.getElem?_eq_getElem hl]
    simp only
    have hk := wf.doc _ (List.getElem?_eq_getElem hl)
    have : htmlN st.ns[0] [nTemplate] = false := by
      unfold htmlN
      rw [hk]
      rfl
    unfold placeOf
    rw [this]
    simp
theorem topOf_append {l : List OpE} {o : OpE} : topOf (l ++ [o]) = o.node := topOf_some (by simp)
end Go.Proofs.YtjmlkmlbhfkhbaaGreatDoor
namespace Go.Proofs.YtjmlkmlbhfkhbaaGreatDoor
open Go Go.RowKit

theorem Rest.keep {ns ns' : List Nd} {m : Int} {a b : Nat} {l : List OpE} (h : Rest ns m a b l) : Rest ns' m a b l := by
  rcases h with h | ⟨h, x, h1, h2⟩ | h
  · exact .inl h
  · exact .inr (.inl ⟨h, x, ⟨h1.node, h1.nm⟩, h2⟩)
  · exact .inr (.inr h)
theorem Shp.quiet {st : St} (h : Shp st) (h0 : 0 < st.ns.length) {ns' : List Nd} (k : Quiet st.ns ns') : Shp { st with ns := ns' } := by
  cases h with
  | start hm hs he => exact .start hm hs ((k.eks 0 h0).trans he)
  | html a hm hs ht => exact .html a hm hs (ht.quiet k)
  | head a b hr ht hb hab hh => exact .head a b hr.keep (ht.quiet k) (hb.keep k.keep) hab hh
  | raw a b l r hm hr hs hl ht hb hab hh => exact .raw a b l r hm hr.keep hs ⟨hl.node, hl.nm⟩ (ht.quiet k) (hb.keep k.keep) hab hh
  | body a b d hm hs ht hb hd => exact .body a b d hm hs (ht.quiet k) (hb.keep k.keep) (hd.keep k.keep)
  | tmpl hm => exact .tmpl hm

/-- Only how the page is read has changed. -/
theorem Shp.plain {st st' : St} (h : Shp st) (e1 : st'.ns = st.ns) (e2 : st'.stk = st.stk) (e3 : st'.mode = st.mode) (e4 : st'.back = st.back) (e5 : st'.head = st.head) : Shp st' := by
  cases h with
  | start hm hs he => exact .start (by rw [e3]; exact hm) (by rw [e2]; exact hs) (by rw [e1]; exact he)
  | html a hm hs ht => exact .html a (by rw [e3]; exact hm) (by rw [e2]; exact hs) (by rw [e1]; exact ht)
  | head a b hr ht hb hab hh => exact .head a b (by rw [e1, e2, e3]; exact hr) (by rw [e1]; exact ht) (by rw [e1]; exact hb) hab (by rw [e5]; exact hh)
  | raw a b l r hm hr hs hl ht hb hab hh => exact .raw a b l r (by rw [e3]; exact hm) (by rw [e1, e4]; exact hr) (by rw [e2]; exact hs) ⟨hl.node, hl.nm⟩ (by rw [e1]; exact ht) (by rw [e1]; exact hb) hab (by rw [e5]; exact hh)
  | body a b d hm hs ht hb hd => exact .body a b d (by rw [e3]; exact hm) (by rw [e2]; exact hs) (by rw [e1]; exact ht) (by rw [e1]; exact hb) (by rw [e1]; exact hd)
  | tmpl hm => exact .tmpl (by rw [e3]; exact hm)
end Go.Proofs.YtjmlkmlbhfkhbaaGreatDoor
namespace Go.Proofs.YtjmlkmlbhfkhbaaGreatDoor
open Go Go.RowKit

def chM (st : St) (s : Str) : St := if plIx st.ns (tgtIx st) = 0 then st else { st with ns := textN st.ns (plIx st.ns (tgtIx st)) s }

set_option maxHeartbeats 2000000 in
theorem bChars {w : World} {c : Col} {h : Hd} {st : St} (H : BRep w c h st) {N : Nat} (wf : Wf N st) (hN : N ≤ 10000000) (hl : st.stk.length ≤ 1000000) (s : Str) (hs : s.size ≤ 1000) :
    Calls Tryz.prog 20 #[.pointer (some ⟨h.b, 0, none⟩), .string s] w (OkB h (chM st s) (.tuple #[]) w c) := by
  obtain ⟨n, t1, t2, t3⟩ := wf.tgt
  obtain ⟨np, p1, p2, p3⟩ := wf.place t1 t3
  have N1 := Lib.hid (bNone H)
  have TG := Lib.hid (bTarget H hl)
  rw [t2] at TG
  have PL := Lib.hid (bPlace H wf.sz (by omega) wf.nf t1)
  rw [p2] at PL
  have TX := Lib.hid (fun (W : World) (hW : Below w.heap.size w W) => aText (H.loc hW) wf hN p1 p3 s hs)
  have PT := Lib.hid (fun (W : World) (hW : Below w.heap.size w W) => (H.loc hW).ptrs)
  have HH := Lib.hid H
  by_cases h0 : plIx st.ns (tgtIx st) = 0
  · have e : chM st s = st := by unfold chM; rw [if_pos h0]
    rw [e]
    rw [h0] at PL
    clear H wf t1 t2 t3 p1 p2 p3 e
    go_enter Tryz.func20, Tryz.ntmps20
    go_wp2_with (first
      | (go_at_call 63; refine N1.out.mono ?_; rintro e w1 ⟨rfl, rfl⟩)
      | (go_at_call 66; refine TG.out.mono ?_; rintro e w1 ⟨rfl, rfl⟩)
      | (go_at_call 28; refine PL.out.mono ?_; rintro e w1 ⟨rfl, hb1⟩))
    go_end0
    exact ⟨rfl, c, HH.out.loc hb1, Mv.of_below hb1⟩
  · have e : chM st s = { st with ns := textN st.ns (plIx st.ns (tgtIx st)) s } := by unfold chM; rw [if_neg h0]
    rw [e]
    generalize plIx st.ns (tgtIx st) = p at *
    have hp0 : (p : Int) > 0 := by omega
    clear H wf t1 t2 t3 p1 p2 p3 e
    go_enter Tryz.func20, Tryz.ntmps20
    go_wp2_with (first
      | (go_at_call 63; refine N1.out.mono ?_; rintro e w1 ⟨rfl, rfl⟩)
      | (go_at_call 66; refine TG.out.mono ?_; rintro e w1 ⟨rfl, rfl⟩)
      | (go_at_call 28; refine PL.out.mono ?_; rintro e w1 ⟨rfl, hb1⟩; obtain ⟨q0, q1, q2⟩ := PT.out _ hb1)
      | (go_at_call 67; refine (TX.out _ hb1).mono ?_; intro e w2 ho; obtain ⟨rfl, c2, H2, m2⟩ := ho.after hb1))
    go_end0
    exact ⟨rfl, c2, H2, m2⟩

/-- The node of a comment. -/
def cmC (s : Str) : NdC := { nd := { kind := 5, name := ⟨#[]⟩, text := s, space := 0, attrs := [], dup := false, parent := 0, content := 0, kids := [], frm := -1, to_ := -1 }, aA := none, acap := 0, kA := none, kcap := 0 }
def cmM (st : St) (s : Str) (p : Nat) : St := { st with ns := hangN (addN st.ns (cmC s).nd) p st.ns.length }

/-- Behind a node is added, a token's box being known. -/
def CmMid (h : Hd) (st1 : St) (w : World) (c : Col) (n : Nat) (s6 : Value) (wx : World) : Prop := s6 = .int .i64 n ∧ ∃ c1, BRep wx c1 h st1 ∧ Mv (Pr h) w c wx c1

set_option maxRecDepth 100000 in
set_option maxHeartbeats 4000000 in
/-- A comment at p: where m says, or at the place of the target. -/
theorem bComment {w : World} {c : Col} {h : Hd} {st : St} (H : BRep w c h st) {N : Nat} (wf : Wf N st) (hN : N ≤ 10000000) (hl : st.stk.length ≤ 1000000) (t : Tok) (ht : t.text.size ≤ 1000) (m : Int) (p : Nat)
    (hm : (m = 0 ∧ p = 0) ∨ (m = -1 ∧ p = plIx st.ns (tgtIx st))) :
    Calls Tryz.prog 21 #[.pointer (some ⟨h.b, 0, none⟩), t.val, .int .i64 m] w (OkB h (cmM st t.text p) (.tuple #[]) w c) := by
  have hb0 : Below w.heap.size w (w.alloc (.cells t.cells.toArray 24)) := below_alloc (Below.refl _ _) _
  have N1 := Lib.hid (bNone (H.loc hb0))
  obtain ⟨q0, q1, q2⟩ := (H.loc hb0).ptrs
  have hlb := H.choose_spec.hb.lt
  have AD := Lib.hid (fun (W : World) (hW : Below w.heap.size w W) => aAdd (H.loc hW) (cmC t.text) (.inr (.inr (.inr rfl))) (by have := wf.sz.1; omega) (by simp [cmC]) ⟨fun _ => rfl, fun _ e => by cases e⟩ wf.sz.2.1)
  have W1 : Wf (N + 1002) { st with ns := addN st.ns (cmC t.text).nd } := wf.add (by omega) (by simp [cmC]) (by simp [cmC]; omega)
  obtain ⟨k, n1⟩ := addN_new st.ns (cmC t.text).nd
  obtain ⟨n, t1, t2, t3⟩ := wf.tgt
  have t1' : (addN st.ns (cmC t.text).nd)[tgtIx st]? = some n := by rw [addN_old (List.getElem?_eq_some_iff.1 t1).1]; exact t1
  have BOX := (HB.new w 24 t.cells).tok
  unfold Tok.val
  unfold Tok.cells at *
  rcases hm with ⟨rfl, rfl⟩ | ⟨rfl, rfl⟩
  · obtain ⟨nd0, hnd0⟩ : ∃ nd0, st.ns[0]? = some nd0 := ⟨_, List.getElem?_eq_getElem (by have := wf.sz.2.1; omega)⟩
    have hl0 : 0 < st.ns.length := (List.getElem?_eq_some_iff.1 hnd0).1
    have p1' : (addN st.ns (cmC t.text).nd)[0]? = some nd0 := by rw [addN_old hl0]; exact hnd0
    have AP := Lib.hid (fun (W : World) (c2 : Col) (H2 : BRep W c2 h { st with ns := addN st.ns (cmC t.text).nd }) => aAppend H2 p1' n1 rfl hl0 (show (addN st.ns (cmC t.text).nd).length ≤ 1000000000 by have : (addN st.ns (cmC t.text).nd).length ≤ N + 1002 := W1.sz.1; omega) (by have := (W1.sz.2.2 0 nd0 p1').2.1; omega) (.inl (wf.doc nd0 hnd0)) (.inr (.inr (.inr rfl))) W1.up)
    obtain ⟨b0, b1, b2, b3, b4, b5, b6, b7, b8⟩ := BOX
    have hnn : (0 : Int) ≤ (st.ns.length : Int) := by omega
    clear wf W1 n1 t1 t2 t3 t1' hnd0 p1' H hl0
    go_enter Tryz.func21, Tryz.ntmps21
    go_upto_region 2 with (go_at_call 63; refine N1.out.mono ?_; rintro e w1 ⟨rfl, rfl⟩)
    go_cut [6] (fun s6 wx => CmMid h { st with ns := addN st.ns (cmC t.text).nd } w c st.ns.length s6 wx)
    case first =>
      go_region_with (go_at_call 68; refine (AD.out _ (below_drew hb0)).mono ?_; intro e w2 ho; obtain ⟨rfl, c2, H2, m2⟩ := ho.after (below_drew hb0))
      all_goals
        go_wp2_with fail
        go_meet
        case rel => exact ⟨rfl, c2, H2, m2⟩
    case rest =>
      obtain ⟨rfl, c1, H1, m1⟩ := hcut
      obtain ⟨r0, r1, r2⟩ := H1.ptrs
      clear q0 q1 q2 b0 b1 b2 b3 b4 b5 b6 b7 b8
      go_wp2_with fail
      refine (AP.out _ _ H1).mono ?_
      rintro e w2 ⟨rfl, c2, H2, m2⟩
      go_wp2_with fail
      go_end0
      exact ⟨rfl, c2, H2, m1.trans m2⟩
  · obtain ⟨np, p1, p2, p3⟩ := wf.place t1 t3
    have hpl : plIx st.ns (tgtIx st) < st.ns.length := (List.getElem?_eq_some_iff.1 p1).1
    have p1' : (addN st.ns (cmC t.text).nd)[plIx st.ns (tgtIx st)]? = some np := by rw [addN_old hpl]; exact p1
    have TG := Lib.hid (fun (W : World) (c2 : Col) (H2 : BRep W c2 h { st with ns := addN st.ns (cmC t.text).nd }) => bTarget H2 (show st.stk.length ≤ 1000000 from hl))
    rw [show topD ({ st with ns := addN st.ns (cmC t.text).nd } : St).stk = (tgtIx st : Int) from t2] at TG
    have PT := Lib.hid (fun (W : World) (c2 : Col) (H2 : BRep W c2 h { st with ns := addN st.ns (cmC t.text).nd }) => bPut H2 W1.sz (by omega) wf.nf t1' p2 p1' n1 rfl hpl p3 (.inr (.inr (.inr rfl))) W1.up)
    obtain ⟨b0, b1, b2, b3, b4, b5, b6, b7, b8⟩ := BOX
    have hnn : (0 : Int) ≤ (st.ns.length : Int) := by omega
    clear wf W1 n1 t1 t2 t3 t1' p1' H hpl p1 p2 p3
    go_enter Tryz.func21, Tryz.ntmps21
    go_upto_region 2 with (go_at_call 63; refine N1.out.mono ?_; rintro e w1 ⟨rfl, rfl⟩)
    go_cut [6] (fun s6 wx => CmMid h { st with ns := addN st.ns (cmC t.text).nd } w c st.ns.length s6 wx)
    case first =>
      go_region_with (go_at_call 68; refine (AD.out _ (below_drew hb0)).mono ?_; intro e w2 ho; obtain ⟨rfl, c2, H2, m2⟩ := ho.after (below_drew hb0))
      all_goals
        go_wp2_with fail
        go_meet
        case rel => exact ⟨rfl, c2, H2, m2⟩
    case rest =>
      obtain ⟨rfl, c1, H1, m1⟩ := hcut
      clear q0 q1 q2 b0 b1 b2 b3 b4 b5 b6 b7 b8
      go_wp2_with (go_at_call 66; refine (TG.out _ _ H1).mono ?_; rintro e w1 ⟨rfl, rfl⟩)
      refine (PT.out _ _ H1).mono ?_
      rintro e w2 ⟨rfl, c2, H2, m2⟩
      go_wp2_with fail
      go_end0
      exact ⟨rfl, c2, H2, m1.trans m2⟩
end Go.Proofs.YtjmlkmlbhfkhbaaGreatDoor
namespace Go.Proofs.YtjmlkmlbhfkhbaaGreatDoor
open Go Go.RowKit

theorem Wf.put {N : Nat} {st : St} (wf : Wf N st) {nd : Nd} (ha : nd.attrs.length ≤ 1000) (ht : nd.text.size ≤ 1000) {p : Nat} (hp : p < st.ns.length) : Wf (N + 1003) { st with ns := hangN (addN st.ns nd) p st.ns.length } := by
  have W1 : Wf (N + 1002) { st with ns := addN st.ns nd } := wf.add (by omega) (by omega) (by omega)
  exact W1.hang hp (by have := (addN_len st.ns nd).1; show st.ns.length < (addN st.ns nd).length; omega)
theorem Wf.set_ {N M : Nat} {st : St} (wf : Wf N st) (hM : N ≤ M) {j : Nat} {n m : Nd} (hn : st.ns[j]? = some n) (e1 : m.kind = n.kind) (e2 : m.name = n.name) (e3 : m.space = n.space) (e4 : m.kids = n.kids) (e5 : m.parent = n.parent) (e6 : m.content = n.content)
    (ha : m.attrs.length ≤ M) (ht : m.text.size ≤ M) : Wf M { st with ns := st.ns.set j m } := by
  have hj := (List.getElem?_eq_some_iff.1 hn).1
  have back : ∀ (i : Nat) (q : Nd), (st.ns.set j m)[i]? = some q → (i = j ∧ q = m) ∨ st.ns[i]? = some q := by
    intro i q hq
    by_cases hij : j = i
    · subst hij
      rw [List.getElem?_set_self hj] at hq
      exact .inl ⟨rfl, (Option.some.inj hq).symm⟩
    · rw [List.getElem?_set_ne hij] at hq
      exact .inr hq
  have K := (quiet_set wf.kid hn e1 e2 e3 e4).keep
  have w2 := wf.more hM
  refine ⟨⟨by simpa using w2.sz.1, by simpa using w2.sz.2.1, ?_⟩, ?_, ?_, ?_, ?_, ?_, w2.nf⟩
  · intro i q hq
    rcases back i q hq with ⟨rfl, rfl⟩ | hq
    · exact ⟨ha, by rw [e4]; exact (w2.sz.2.2 i n hn).2.1, ht⟩
    · exact w2.sz.2.2 i q hq
  · intro k o ho
    obtain ⟨i, q, h1, h2, h3, h4, h5⟩ := w2.op k o ho
    obtain ⟨q', k1, k2, k3, k4⟩ := K.nd i q h2
    exact ⟨i, q', h1, k1, k2.trans h3, k4.trans h4, k3.trans h5⟩
  · intro i q hq
    rcases back i q hq with ⟨rfl, rfl⟩ | hq
    · rw [e5]; exact w2.up i n hn
    · exact w2.up i q hq
  · intro q hq
    rcases back 0 q hq with ⟨h0, rfl⟩ | hq
    · subst h0; rw [e1]; exact w2.doc n hn
    · exact w2.doc q hq
  · intro i q hq hh
    have fin : ∀ (x : Int), (∃ (r : Nat) (nc : Nd), x = (r : Int) ∧ st.ns[r]? = some nc ∧ nc.kind = 6) → ∃ (r : Nat) (nc : Nd), x = (r : Int) ∧ (st.ns.set j m)[r]? = some nc ∧ nc.kind = 6 := by
      rintro x ⟨r, nc, h1, h2, h3⟩
      obtain ⟨q', k1, k2, -⟩ := K.nd r nc h2
      exact ⟨r, q', h1, k1, k2.trans h3⟩
    rcases back i q hq with ⟨rfl, rfl⟩ | hq
    · rw [e6]
      exact fin _ (w2.cont i n hn (by rw [← htmlN_congr e1 e3 e2]; exact hh))
    · exact fin _ (w2.cont i q hq hh)
  · intro i q hq k hk
    have : (st.ns.set j m).length = st.ns.length := by simp
    show 0 ≤ k ∧ k < ((st.ns.set j m).length : Int)
    rw [this]
    rcases back i q hq with ⟨rfl, rfl⟩ | hq
    · rw [e4] at hk; exact w2.kid i n hn k hk
    · exact w2.kid i q hq k hk
end Go.Proofs.YtjmlkmlbhfkhbaaGreatDoor
namespace Go.Proofs.YtjmlkmlbhfkhbaaGreatDoor
open Go Go.RowKit

/-- A new ask is laid. -/
theorem setAsk {w : World} {c : Col} {h : Hd} {x : Sh} {st : St} (H : BRepX w c h x st) (s : Int) (n : Str) :
    BRepX ((w.alloc (.cells #[.int .i64 s, .string n] 92)).setCell ⟨h.b, 12, none⟩ (.pointer (some ⟨w.heap.size, 0, none⟩))) (paint c w.heap.size (h.sd, 11, 0)) h { x with kA := some ⟨w.heap.size, 0, none⟩ } { st with ask := some (s, n) } ∧
      Mv (Pr h) w c ((w.alloc (.cells #[.int .i64 s, .string n] 92)).setCell ⟨h.b, 12, none⟩ (.pointer (some ⟨w.heap.size, 0, none⟩))) (paint c w.heap.size (h.sd, 11, 0)) := by
  have s1 : Mv (Pr h) w c (w.alloc (.cells #[.int .i64 s, .string n] 92)) (paint c w.heap.size (h.sd, 11, 0)) := Mv.alloc_paint w c _ _
  have k1 : ∀ p i, p ≠ 11 → Kp (h.sd, p, i) w c (w.alloc (.cells #[.int .i64 s, .string n] 92)) (paint c w.heap.size (h.sd, 11, 0)) := fun p i hp => kp_alloc_paint w c _ _ _
  have hb1 : Blk (w.alloc (.cells #[.int .i64 s, .string n] 92)) (paint c w.heap.size (h.sd, 11, 0)) (h.sd, 1, 0) h.b 36 (bCells h x st) := H.hb.kp (kp_alloc_paint w c _ _ _)
  have nb : Blk (w.alloc (.cells #[.int .i64 s, .string n] 92)) (paint c w.heap.size (h.sd, 11, 0)) (h.sd, 11, 0) w.heap.size 92 [.int .i64 s, .string n] := Blk.new w c (h.sd, 11, 0) 92 [.int .i64 s, .string n]
  generalize hw1 : w.alloc (.cells #[.int .i64 s, .string n] 92) = w1 at *
  generalize hc1 : paint c w.heap.size (h.sd, 11, 0) = c1 at *
  have k2 : ∀ p i, p ≠ 1 → Kp (h.sd, p, i) w1 c1 (w1.setCell ⟨h.b, 12, none⟩ (.pointer (some ⟨w.heap.size, 0, none⟩))) c1 := fun p i hp => kp_setCell (by rw [hb1.1]; simp; omega) _
  have s2 : Mv (Pr h) w1 c1 (w1.setCell ⟨h.b, 12, none⟩ (.pointer (some ⟨w.heap.size, 0, none⟩))) c1 := Mv.setCell (show (c1 h.b).1 = h.sd by rw [hb1.1]) _
  have k : ∀ p i, p ≠ 11 → p ≠ 1 → Kp (h.sd, p, i) w c (w1.setCell ⟨h.b, 12, none⟩ (.pointer (some ⟨w.heap.size, 0, none⟩))) c1 := fun p i h1 h2 => (k1 p i h1).trans s1.size (k2 p i h2)
  have sm := s1.trans s2
  refine ⟨⟨sm.gd H.gd, H.sd, hb1.set_ 12 _, H.ha.kp (k _ _ (by decide) (by decide)), ?_, H.ns, H.hs.kp (k _ _ (by decide) (by decide)), H.stk.kp (k _ _ (by decide) (by decide)), H.hl.kp (k _ _ (by decide) (by decide)), H.fmt.kp (k _ _ (by decide) (by decide)), H.modes.kp (k _ _ (by decide) (by decide)), ?_⟩, sm⟩
  · exact ⟨H.nodes.row.kp (k _ _ (by decide) (by decide)), fun i y hy => ⟨(H.nodes.each i y hy).1.kp (k _ _ (by decide) (by decide)), (H.nodes.each i y hy).2.kp (k _ _ (by decide) (by decide))⟩⟩
  · exact ⟨w.heap.size, rfl, nb.kp (k2 _ _ (by decide))⟩

theorem setCell_alloc (w : World) (o : Obj) (a : Addr) (v : Value) (h : a.block < w.heap.size) : (w.alloc o).setCell a v = (w.setCell a v).alloc o := by
  unfold World.setCell World.alloc
  simp only
  congr 1
  apply Array.ext
  · simp
  · intro i h1 h2
    simp only [Array.getElem_modify, Array.getElem_push]
    split <;> split <;> simp_all <;> omega

def rawM (st : St) (t : Tok) (s : Int) : St := { insM st t 0 with ask := some (s, t.name), back := st.mode, mode := 7 }

set_option maxRecDepth 100000 in
set_option maxHeartbeats 4000000 in
theorem bRaw {w : World} {c : Col} {h : Hd} {st : St} (H : BRep w c h st) {N : Nat} (wf : Wf N st) (hN : N ≤ 10000000) (hl : st.stk.length < 512) (t : Tok) (s : Int) (hs : Src w t.aA (attrCells t.attrs)) (hta : t.attrs.length ≤ 1000) :
    Calls Tryz.prog 22 #[.pointer (some ⟨h.b, 0, none⟩), t.val, .int .i64 s] w (OkB h (rawM st t s) (.tuple #[]) w c) := by
  have hb0 : Below w.heap.size w (w.alloc (.cells t.cells.toArray 24)) := below_alloc (Below.refl _ _) _
  have N1 := Lib.hid (bNone (H.loc hb0))
  have IN := Lib.hid (bInsert (H.loc hb0) wf hN hl t 0 (hs.loc hb0) hta)
  have BX := (HB.new w 24 t.cells)
  have hcb : (c w.heap.size).1 = 0 := H.gd _ (Nat.le_refl _)
  have hsd := H.sd
  have BOX : Hid (∀ W C, Mv (Pr h) (w.alloc (.cells t.cells.toArray 24)) c W C → HB W w.heap.size 24 t.cells) := Lib.hid fun W C hm => BX.mvk hm (fun e => hsd (by unfold Pr at e; rw [← e, hcb]))
  clear H wf hs
  obtain ⟨b0, b1, b2, b3, b4, b5, b6, b7, b8⟩ := BX.tok
  unfold Tok.val
  unfold Tok.cells at *
  go_enter Tryz.func22, Tryz.ntmps22
  go_wp2_with (go_at_call 63; refine N1.out.mono ?_; rintro e w1 ⟨rfl, rfl⟩)
  refine IN.out.mono ?_
  rintro e w1 ⟨rfl, c1, H1, m1⟩
  have T1 := (BOX.out _ _ m1).tok
  obtain ⟨d0, d1, -⟩ := T1
  obtain ⟨X, X1⟩ := H1
  have hb1 := X1.bc
  have q12 := hb1.2.2.2.2.2.2.2.2.2.2.2.2.1
  have qf := X1.hb.frozen 12
  have hlb := X1.hb.lt
  have SA := Lib.hid (setAsk X1 s t.name)
  have hzb : w.heap.size < w1.heap.size := by
    have := (BOX.out _ _ m1).lt
    exact this
  have hcm := setCell_alloc w1 (.cells #[.int .i64 s, .string t.name] 92) ⟨h.b, 12, none⟩ (.pointer (some ⟨w1.heap.size, 0, none⟩)) hlb
  have SA2 := SA.out
  rw [hcm] at SA2
  obtain ⟨S1, S2⟩ := SA2
  have KP := Lib.hid (bKeep ⟨_, S1⟩)
  have M2 := Lib.hid (m1.trans S2)
  clear b0 b1 b2 b3 b4 b5 b6 b7 b8 hb1 X1 hcm S1 S2
  go_wp2_with fail
  refine KP.out.mono ?_
  rintro e w2 ⟨rfl, c2, H2, m2⟩
  obtain ⟨Y, Y1⟩ := H2
  obtain ⟨e0, e1, e2, e3, -⟩ := Y1.bc
  have f3 := Y1.hb.frozen 3
  have FIN := Lib.hid (And.intro (Y1.setB 3 (.int .i64 7) (rawM st t s) Y rfl rfl rfl rfl rfl rfl rfl ⟨rfl, rfl⟩ rfl) (Y1.mvB 3 (.int .i64 7)))
  have hl2 := Y1.hb.lt
  clear Y1 d0 d1 q12 qf
  go_wp2_with fail
  go_end0
  exact ⟨rfl, c2, ⟨_, FIN.out.1⟩, (Mv.of_below hb0).trans (M2.out.trans (m2.trans FIN.out.2))⟩
end Go.Proofs.YtjmlkmlbhfkhbaaGreatDoor
