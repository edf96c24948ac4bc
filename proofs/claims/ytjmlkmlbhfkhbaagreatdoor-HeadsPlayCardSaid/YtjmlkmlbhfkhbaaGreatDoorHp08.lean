/-
  Plain laws of the nodes' lists: adding, hanging; what a good state is.
  The builder's Put of a new node, element, Insert, Imply, Only.
  The formatting list's functions: Len, none, At, may, lay, Mark, and Push onto an empty list.
-/
import Derived.Test.YtjmlkmlbhfkhbaaGreatDoorHp07
import Derived.Test.YtjmlkmlbhfkhbaaGreatDoorHp05
set_option linter.unusedSimpArgs false
set_option linter.unusedVariables false
namespace Go.Proofs.YtjmlkmlbhfkhbaaGreatDoor
open Go Go.RowKit

theorem addN_len (ns : List Nd) (n : Nd) : ns.length + 1 ≤ (addN ns n).length ∧ (addN ns n).length ≤ ns.length + 2 := by
  unfold addN
  split <;> simp
theorem addN_old {ns : List Nd} {n : Nd} {i : Nat} (hi : i < ns.length) : (addN ns n)[i]? = ns[i]? := by
  unfold addN
  split <;> rw [List.getElem?_append_left hi]
theorem addN_new (ns : List Nd) (n : Nd) : ∃ k, (addN ns n)[ns.length]? = some { bareNd n with content := k } := by
  unfold addN
  split
  · exact ⟨(ns.length : Int) + 1, by simp⟩
  · exact ⟨0, by simp [bareNd]⟩
/-- What is in a list behind addN. -/
theorem addN_cases {ns : List Nd} {n : Nd} {i : Nat} {m : Nd} (h : (addN ns n)[i]? = some m) :
    ns[i]? = some m ∨ (i = ns.length ∧ (∃ k, m = { bareNd n with content := k }) ∧ (tmplB n = true → m.content = (ns.length : Int) + 1)) ∨ (i = ns.length + 1 ∧ m = contentNd ∧ tmplB n = true) := by
  rcases Nat.lt_or_ge i ns.length with hi | hi
  · rw [addN_old hi] at h; exact .inl h
  · unfold addN at h
    split at h
    · rename_i ht
      rw [List.getElem?_append_right hi] at h
      obtain ⟨d, rfl⟩ : ∃ d, i = ns.length + d := ⟨i - ns.length, by omega⟩
      rw [Nat.add_sub_cancel_left] at h
      match d with
      | 0 => simp at h; exact .inr (.inl ⟨by omega, ⟨_, h.symm⟩, fun _ => by rw [← h]⟩)
      | 1 => simp at h; exact .inr (.inr ⟨by omega, h.symm, ht⟩)
      | d + 2 => simp at h
    · rename_i ht
      rw [List.getElem?_append_right hi] at h
      obtain ⟨d, rfl⟩ : ∃ d, i = ns.length + d := ⟨i - ns.length, by omega⟩
      rw [Nat.add_sub_cancel_left] at h
      match d with
      | 0 => simp at h; exact .inr (.inl ⟨by omega, ⟨0, by rw [← h]; rfl⟩, fun t => absurd t (by simpa using ht)⟩)
      | d + 1 => simp at h

theorem hangN_len (ns : List Nd) (p i : Nat) : (hangN ns p i).length = ns.length := by
  unfold hangN
  split <;> simp
/-- What is in a list behind hangN. -/
theorem hangN_cases {ns : List Nd} {p i j : Nat} {m : Nd} (hpi : p ≠ i) (h : (hangN ns p i)[j]? = some m) :
    ∃ n, ns[j]? = some n ∧ m.kind = n.kind ∧ m.name = n.name ∧ m.text = n.text ∧ m.space = n.space ∧ m.attrs = n.attrs ∧ m.content = n.content ∧
      (m.parent = n.parent ∨ (j = i ∧ m.parent = (p : Int))) ∧ (m.kids = n.kids ∨ (j = p ∧ m.kids = n.kids ++ [(i : Int)])) := by
  unfold hangN at h
  split at h
  · rename_i np ni h1 h2
    simp only [List.getElem?_set] at h
    by_cases hij : i = j
    · subst hij
      rw [if_pos rfl] at h
      split at h
      · obtain rfl := Option.some.inj h
        exact ⟨ni, h2, rfl, rfl, rfl, rfl, rfl, rfl, .inr ⟨rfl, rfl⟩, .inl rfl⟩
      · cases h
    · rw [if_neg hij] at h
      by_cases hpj : p = j
      · subst hpj
        rw [if_pos rfl] at h
        split at h
        · obtain rfl := Option.some.inj h
          exact ⟨np, h1, rfl, rfl, rfl, rfl, rfl, rfl, .inl rfl, .inr ⟨rfl, rfl⟩⟩
        · cases h
      · rw [if_neg hpj] at h
        exact ⟨m, h, rfl, rfl, rfl, rfl, rfl, rfl, .inl rfl, .inl rfl⟩
  · exact ⟨m, h, rfl, rfl, rfl, rfl, rfl, rfl, .inl rfl, .inl rfl⟩
theorem hangN_some {ns : List Nd} {p i j : Nat} {n : Nd} (h : ns[j]? = some n) : ∃ m, (hangN ns p i)[j]? = some m := by
  have hj := (List.getElem?_eq_some_iff.1 h).1
  exact ⟨_, List.getElem?_eq_getElem (by rw [hangN_len]; exact hj)⟩

/-- A good state, bounded by N. -/
structure Wf (N : Nat) (st : St) : Prop where
  sz : Sz N st
  op : OpenOk st
  up : UpNs st.ns
  doc : ∀ n, st.ns[0]? = some n → n.kind = 1
  cont : ∀ (i : Nat) (n : Nd), st.ns[i]? = some n → htmlN n [nTemplate] = true → ∃ (m : Nat) (nc : Nd), n.content = (m : Int) ∧ st.ns[m]? = some nc ∧ nc.kind = 6
  kid : ∀ (i : Nat) (n : Nd), st.ns[i]? = some n → ∀ k ∈ n.kids, 0 ≤ k ∧ k < (st.ns.length : Int)
  nf : st.foster = false

theorem Wf.more {N M : Nat} {st : St} (h : Wf N st) (hm : N ≤ M) : Wf M st :=
  ⟨⟨Nat.le_trans h.sz.1 hm, h.sz.2.1, fun i n hi => by have := h.sz.2.2 i n hi; omega⟩, h.op, h.up, h.doc, h.cont, h.kid, h.nf⟩

/-- The target's index, and the index at its place. -/
def tgtIx (st : St) : Nat := (topD st.stk).toNat
def plIx (ns : List Nd) (t : Nat) : Nat := match ns[t]? with | some n => (placeOf t n).toNat | none => 0

theorem topOf_nil : topOf [] = -1 := by unfold topOf atOf; simp
theorem topOf_some {stk : List OpE} {o : OpE} (h : stk[stk.length - 1]? = some o) : topOf stk = o.node := by
  have hl := (List.getElem?_eq_some_iff.1 h).1
  unfold topOf atOf
  rw [if_pos (by omega), show ((stk.length : Int) - 1).toNat = stk.length - 1 by omega, h]

/-- The target is a node: the document, or an open element. -/
theorem Wf.tgt {N : Nat} {st : St} (h : Wf N st) : ∃ n, st.ns[tgtIx st]? = some n ∧ topD st.stk = (tgtIx st : Int) ∧ (n.kind = 1 ∨ n.kind = 3) := by
  by_cases h0 : st.stk.length = 0
  · have hnil : st.stk = [] := List.eq_nil_of_length_eq_zero h0
    have e : topD st.stk = 0 := by unfold topD; rw [hnil, topOf_nil]; rfl
    have hne := h.sz.2.1
    refine ⟨st.ns[0], ?_, ?_, .inl (h.doc _ (List.getElem?_eq_getElem (by omega)))⟩
    · unfold tgtIx; rw [e]; exact List.getElem?_eq_getElem (by omega)
    · unfold tgtIx; rw [e]; rfl
  · obtain ⟨o, ho⟩ : ∃ o, st.stk[st.stk.length - 1]? = some o := ⟨_, List.getElem?_eq_getElem (by omega)⟩
    obtain ⟨i, n, e1, e2, e3, -, -⟩ := h.op _ o ho
    have e : topD st.stk = (i : Int) := by
      unfold topD
      rw [topOf_some ho, e1, if_neg (by omega)]
    refine ⟨n, ?_, ?_, .inr e3⟩
    · unfold tgtIx; rw [e]; simpa using e2
    · unfold tgtIx; rw [e]; rfl

/-- The place of a node that may have kids: a node that may have kids, with a number. -/
theorem Wf.place {N : Nat} {st : St} (h : Wf N st) {t : Nat} {n : Nd} (hn : st.ns[t]? = some n) (hk : n.kind = 1 ∨ n.kind = 3) :
    ∃ np, st.ns[plIx st.ns t]? = some np ∧ placeOf t n = (plIx st.ns t : Int) ∧ (np.kind = 1 ∨ np.kind = 3 ∨ np.kind = 6) := by
  unfold plIx
  rw [hn]
  simp only
  unfold placeOf
  cases hq : htmlN n [nTemplate]
  · refine ⟨n, by simpa using hn, by simp, ?_⟩
    rcases hk with hk | hk
    · exact .inl hk
    · exact .inr (.inl hk)
  · obtain ⟨m, nc, e1, e2, e3⟩ := h.cont t n hn hq
    refine ⟨nc, ?_, ?_, .inr (.inr e3)⟩
    · simp [e1, e2]
    · simp [e1]

theorem tmplB_htmlN (n : Nd) : tmplB n = htmlN n [nTemplate] := by unfold tmplB htmlN inS; simp
theorem htmlN_congr {m n : Nd} (h1 : m.kind = n.kind) (h2 : m.space = n.space) (h3 : m.name = n.name) (l : List Str) : htmlN m l = htmlN n l := by unfold htmlN; rw [h1, h2, h3]

theorem Wf.add {N M : Nat} {st : St} (h : Wf N st) {nd : Nd} (hM : N + 2 ≤ M) (ha : nd.attrs.length ≤ M) (ht : nd.text.size ≤ M) : Wf M { st with ns := addN st.ns nd } := by
  have hlen := addN_len st.ns nd
  have hsz := h.sz
  refine ⟨⟨?_, ?_, ?_⟩, ?_, ?_, ?_, ?_, ?_, h.nf⟩
  · have := hsz.1; show (addN st.ns nd).length ≤ M; omega
  · show (addN st.ns nd).length ≠ 0; omega
  · intro i m hm
    rcases addN_cases hm with h1 | ⟨-, ⟨k, rfl⟩, -⟩ | ⟨-, rfl, -⟩
    · have := hsz.2.2 i m h1; omega
    · exact ⟨ha, Nat.zero_le _, ht⟩
    · exact ⟨Nat.zero_le _, Nat.zero_le _, Nat.zero_le _⟩
  · intro k o ho
    obtain ⟨i, n, e1, e2, e3⟩ := h.op k o ho
    exact ⟨i, n, e1, by show (addN st.ns nd)[i]? = _; rw [addN_old (List.getElem?_eq_some_iff.1 e2).1]; exact e2, e3⟩
  · intro i m hm
    rcases addN_cases hm with h1 | ⟨rfl, ⟨k, rfl⟩, -⟩ | ⟨rfl, rfl, -⟩
    · exact h.up i m h1
    · simp [bareNd]; omega
    · simp [contentNd]; omega
  · intro m hm
    rw [show ({ st with ns := addN st.ns nd } : St).ns = addN st.ns nd from rfl, addN_old (by have := hsz.2.1; omega)] at hm
    exact h.doc m hm
  · intro i m hm hq
    rcases addN_cases hm with h1 | ⟨rfl, ⟨k, rfl⟩, hc⟩ | ⟨rfl, rfl, -⟩
    · obtain ⟨j, nc, e1, e2, e3⟩ := h.cont i m h1 hq
      exact ⟨j, nc, e1, by show (addN st.ns nd)[j]? = _; rw [addN_old (List.getElem?_eq_some_iff.1 e2).1]; exact e2, e3⟩
    · have htm : tmplB nd = true := by rw [tmplB_htmlN]; exact hq
      refine ⟨st.ns.length + 1, contentNd, hc htm, ?_, rfl⟩
      show (addN st.ns nd)[st.ns.length + 1]? = _
      unfold addN
      rw [htm]
      simp
    · exact absurd hq (by decide)
  · intro i m hm k hk
    rcases addN_cases hm with h1 | ⟨rfl, ⟨k', rfl⟩, -⟩ | ⟨rfl, rfl, -⟩
    · have := h.kid i m h1 k hk
      refine ⟨this.1, ?_⟩
      show k < ((addN st.ns nd).length : Int)
      omega
    · simp [bareNd] at hk
    · simp [contentNd] at hk

theorem Wf.hang {N : Nat} {st : St} (h : Wf N st) {p i : Nat} (hpi : p < i) (hi : i < st.ns.length) : Wf (N + 1) { st with ns := hangN st.ns p i } := by
  have hlen := hangN_len st.ns p i
  have hsz := h.sz
  refine ⟨⟨?_, ?_, ?_⟩, ?_, ?_, ?_, ?_, ?_, h.nf⟩
  · have := hsz.1; show (hangN st.ns p i).length ≤ N + 1; omega
  · show (hangN st.ns p i).length ≠ 0; rw [hlen]; exact hsz.2.1
  · intro j m hm
    obtain ⟨n, hn, e1, e2, e3, e4, e5, e6, e7, e8⟩ := hangN_cases (by omega) hm
    have := hsz.2.2 j n hn
    refine ⟨by rw [e5]; omega, ?_, by rw [e3]; omega⟩
    rcases e8 with e8 | ⟨-, e8⟩ <;> rw [e8]
    · omega
    · simp; omega
  · intro k o ho
    obtain ⟨j, n, e1, e2, e3, e4, e5⟩ := h.op k o ho
    obtain ⟨m, hm⟩ := hangN_some (p := p) (i := i) e2
    obtain ⟨n', hn', f1, f2, f3, f4, -⟩ := hangN_cases (by omega) hm
    rw [e2] at hn'
    obtain rfl := Option.some.inj hn'
    exact ⟨j, m, e1, hm, f1.trans e3, f4.trans e4, f2.trans e5⟩
  · intro j m hm
    obtain ⟨n, hn, -, -, -, -, -, -, e7, -⟩ := hangN_cases (by omega) hm
    have := h.up j n hn
    rcases e7 with e7 | ⟨rfl, e7⟩ <;> rw [e7]
    · exact this
    · omega
  · intro m hm
    obtain ⟨n, hn, e1, -⟩ := hangN_cases (by omega) hm
    rw [e1]
    exact h.doc n hn
  · intro j m hm hq
    obtain ⟨n, hn, e1, e2, e3, e4, e5, e6, -, -⟩ := hangN_cases (by omega) hm
    rw [htmlN_congr e1 e4 e2] at hq
    obtain ⟨k, nc, g1, g2, g3⟩ := h.cont j n hn hq
    obtain ⟨m', hm'⟩ := hangN_some (p := p) (i := i) g2
    obtain ⟨n', hn', f1, -⟩ := hangN_cases (by omega) hm'
    rw [g2] at hn'
    obtain rfl := Option.some.inj hn'
    exact ⟨k, m', by rw [e6]; exact g1, hm', f1.trans g3⟩
  · intro j m hm k hk
    obtain ⟨n, hn, -, -, -, -, -, -, -, e8⟩ := hangN_cases (by omega) hm
    show 0 ≤ k ∧ k < ((hangN st.ns p i).length : Int)
    rw [hlen]
    rcases e8 with e8 | ⟨-, e8⟩ <;> rw [e8] at hk
    · exact h.kid j n hn k hk
    · rw [List.mem_append] at hk
      rcases hk with hk | hk
      · exact h.kid j n hn k hk
      · simp at hk; omega

theorem Wf.push {N : Nat} {st : St} (h : Wf N st) {i : Nat} {n : Nd} (hi : st.ns[i]? = some n) (hk : n.kind = 3) : Wf N { st with stk := st.stk ++ [⟨(i : Int), n.space, n.name⟩] } := by
  refine ⟨h.sz, ?_, h.up, h.doc, h.cont, h.kid, h.nf⟩
  intro k o ho
  have ho' : (st.stk ++ [(⟨(i : Int), n.space, n.name⟩ : OpE)])[k]? = some o := ho
  rw [List.getElem?_append] at ho'
  split at ho'
  · exact h.op k o ho'
  · have : o = ⟨(i : Int), n.space, n.name⟩ := by
      rcases hd : k - st.stk.length with _ | d
      · rw [hd] at ho'; simp at ho'; exact ho'.symm
      · rw [hd] at ho'; simp at ho'
    subst this
    exact ⟨i, n, rfl, hi, hk, rfl, rfl⟩

/-- A state with another stack that is a part of it. -/
theorem Wf.sub {N : Nat} {st : St} (h : Wf N st) {l : List OpE} (hl : ∀ o ∈ l, o ∈ st.stk) : Wf N { st with stk := l } := by
  refine ⟨h.sz, ?_, h.up, h.doc, h.cont, h.kid, h.nf⟩
  intro k o ho
  have hm := hl o (List.mem_of_getElem? ho)
  obtain ⟨j, hj, rfl⟩ := List.getElem_of_mem hm
  exact h.op j _ (List.getElem?_eq_getElem hj)

end Go.Proofs.YtjmlkmlbhfkhbaaGreatDoor
namespace Go.Proofs.YtjmlkmlbhfkhbaaGreatDoor
open Go Go.RowKit

theorem OkB.after {h : Hd} {st : St} {v : Value} {w w1 : World} {c : Col} (hb : Below w.heap.size w w1) {e : Ending} {w2 : World} (H : OkB h st v w1 c e w2) : OkB h st v w c e w2 :=
  ⟨H.1, H.2.choose, H.2.choose_spec.1, (Mv.of_below hb).trans H.2.choose_spec.2⟩
theorem OkB.step {h : Hd} {st : St} {v : Value} {w w1 : World} {c c1 : Col} (hm : Mv (Pr h) w c w1 c1) {e : Ending} {w2 : World} (H : OkB h st v w1 c1 e w2) : OkB h st v w c e w2 :=
  ⟨H.1, H.2.choose, H.2.choose_spec.1, hm.trans H.2.choose_spec.2⟩

set_option maxHeartbeats 1000000 in
/-- Put of node i, that hangs nowhere yet, at the place of target t: p. -/
theorem bPut {w : World} {c : Col} {h : Hd} {st : St} (H : BRep w c h st) {N : Nat} (hs : Sz N st) (hN : N ≤ 100000000) (hf : st.foster = false) {t : Nat} {n : Nd} (ht : st.ns[t]? = some n)
    {p i : Nat} {np ni : Nd} (hpl : placeOf t n = (p : Int)) (hp : st.ns[p]? = some np) (hi : st.ns[i]? = some ni) (hpar : ni.parent = -1) (hpi : p < i)
    (hkp : np.kind = 1 ∨ np.kind = 3 ∨ np.kind = 6) (hki : ni.kind = 2 ∨ ni.kind = 3 ∨ ni.kind = 4 ∨ ni.kind = 5) (hu : UpNs st.ns) :
    Calls Tryz.prog 19 #[.pointer (some ⟨h.b, 0, none⟩), .int .i64 i, .int .i64 t] w (OkB h { st with ns := hangN st.ns p i } (.tuple #[]) w c) := by
  have N1 := Lib.hid (bNone H)
  have PL := Lib.hid (bPlace H hs hN hf ht)
  rw [hpl] at PL
  have AP := Lib.hid (fun (W : World) (hW : Below w.heap.size w W) => aAppend (H.loc hW) hp hi hpar hpi (by have := hs.1; omega) (by have := (hs.2.2 p np hp).2.1; omega) hkp hki hu)
  have BC := Lib.hid (fun (W : World) (hW : Below w.heap.size w W) => (H.loc hW).choose_spec.bc.1)
  have hp0 : (0 : Int) ≤ (p : Int) := by omega
  clear H hs hf ht hpl hp hi hpar hkp hki hu
  go_enter Tryz.func19, Tryz.ntmps19
  go_wp2_with (go_at_call 63; refine N1.out.mono ?_; rintro e w1 ⟨rfl, rfl⟩)
  refine PL.out.mono ?_
  rintro e w1 ⟨rfl, hb1⟩
  have b0 := BC.out _ hb1
  go_wp2_with fail
  refine (AP.out _ hb1).mono ?_
  intro e w2 ho
  obtain ⟨rfl, c2, H2, hm2⟩ := ho.after hb1
  go_wp2_with fail
  go_end0
  exact ⟨rfl, c2, H2, hm2⟩

/-- The node of a tag. -/
def elC (t : Tok) (space : Int) : NdC :=
  { nd := { kind := 3, name := t.name, text := ⟨#[]⟩, space := space, attrs := t.attrs, dup := t.dup, parent := 0, content := 0, kids := [], frm := t.frm, to_ := t.to_ }, aA := t.aA, acap := t.acap, kA := none, kcap := 0 }

set_option maxHeartbeats 1000000 in
theorem bElement (w : World) (t : Tok) (space : Int) : Calls Tryz.prog 87 #[t.val, .int .i64 space] w fun e w' => e = .returned (elC t space).val ∧ Below w.heap.size w w' := by
  unfold Tok.val Tok.cells
  go_enter Tryz.func87, Tryz.ntmps87
  go_wp2_with fail
  refine bodyPost_ret (v := (elC t space).val) ?_ rfl ?_
  · simp [results, Tryz.results87, go_sem, NdC.val, NdC.cells, elC]
  · refine ⟨rfl, ?_⟩
    exact below_alloc (below_alloc (Below.refl _ _) _) _

def insM (st : St) (t : Tok) (space : Int) : St :=
  { st with ns := hangN (addN st.ns (elC t space).nd) (plIx st.ns (tgtIx st)) st.ns.length, stk := st.stk ++ [⟨(st.ns.length : Int), space, t.name⟩] }

/-- Behind the node is added. -/
def InsMid (h : Hd) (st1 : St) (w : World) (c : Col) (n : Nat) (s7 : Value) (wx : World) : Prop := s7 = .int .i64 n ∧ ∃ c1, BRep wx c1 h st1 ∧ Mv (Pr h) w c wx c1

set_option maxRecDepth 100000 in
set_option maxHeartbeats 4000000 in
theorem bInsert {w : World} {c : Col} {h : Hd} {st : St} (H : BRep w c h st) {N : Nat} (wf : Wf N st) (hN : N ≤ 10000000) (hl : st.stk.length < 512) (t : Tok) (space : Int) (hs : Src w t.aA (attrCells t.attrs)) (hta : t.attrs.length ≤ 1000) :
    Calls Tryz.prog 45 #[.pointer (some ⟨h.b, 0, none⟩), t.val, .int .i64 space] w (OkB h (insM st t space) (.int .i64 st.ns.length) w c) := by
  have N1 := Lib.hid (fun (W : World) (hW : Below w.heap.size w W) => bNone (H.loc hW))
  have L1 := Lib.hid (fun (W : World) (hW : Below w.heap.size w W) => sLen ((H.loc hW).choose_spec.sv (by omega)))
  have BC := Lib.hid (fun (W : World) (hW : Below w.heap.size w W) => And.intro (H.loc hW).choose_spec.bc.1 (And.intro (H.loc hW).choose_spec.bc.2.1 (H.loc hW).choose_spec.hb.lt))
  have AD := Lib.hid (fun (W : World) (hW : Below w.heap.size w W) => aAdd (H.loc hW) (elC t space) (by right; left; rfl) (by have := wf.sz.1; omega) (by simp [elC]; omega) (hs.loc hW) wf.sz.2.1)
  have hsl : (st.stk.length : Int) < 512 := by omega
  clear H hs
  have WF := Lib.hid wf
  clear wf
  unfold Tok.val Tok.cells
  go_enter Tryz.func45, Tryz.ntmps45
  obtain ⟨q0, q1, q2⟩ := BC.out _ (below_alloc (Below.refl w.heap.size w) (.cells t.cells.toArray 24))
  unfold Tok.cells at q0 q1 q2
  go_upto_region 6 with (first | (go_at_call 63; refine (N1.out _ (below_alloc (Below.refl _ _) _)).mono ?_; rintro e w1 ⟨rfl, rfl⟩) | (go_at_call 77; refine (L1.out _ (below_alloc (Below.refl _ _) _)).mono ?_; rintro e w1 ⟨rfl, rfl⟩))
  go_cut [7] (fun s7 wx => InsMid h { st with ns := addN st.ns (elC t space).nd } w c st.ns.length s7 wx)
  case first =>
    go_region_with (first
      | (go_at_call 87; refine (bElement _ t space).mono ?_; rintro e w1 ⟨rfl, hb1⟩; have hB : Below w.heap.size w w1 := below_step (below_drew (below_alloc (Below.refl _ _) _)) hb1; have q3 := (BC.out _ hB).1)
      | (go_at_call 68; refine (AD.out _ hB).mono ?_; intro e w2 ho; obtain ⟨rfl, c2, H2, hm2⟩ := ho.after hB))
    all_goals
      go_wp2_with fail
      go_meet
      case rel => exact ⟨rfl, c2, H2, hm2⟩
  case rest =>
    obtain ⟨rfl, c1, H1, hm1⟩ := hcut
    have W1 : Wf (N + 1002) { st with ns := addN st.ns (elC t space).nd } := WF.out.add (by omega) (by simp [elC]; omega) (Nat.zero_le _)
    obtain ⟨n, t1, t2, t3⟩ := WF.out.tgt
    obtain ⟨np, p1, p2, p3⟩ := WF.out.place t1 t3
    obtain ⟨k, n1⟩ := addN_new st.ns (elC t space).nd
    have hpl : plIx st.ns (tgtIx st) < st.ns.length := (List.getElem?_eq_some_iff.1 p1).1
    have t1' : (addN st.ns (elC t space).nd)[tgtIx st]? = some n := by rw [addN_old (List.getElem?_eq_some_iff.1 t1).1]; exact t1
    have p1' : (addN st.ns (elC t space).nd)[plIx st.ns (tgtIx st)]? = some np := by rw [addN_old hpl]; exact p1
    have TG := Lib.hid (bTarget H1 (by show st.stk.length ≤ _; omega))
    rw [show topD ({ st with ns := addN st.ns (elC t space).nd } : St).stk = (tgtIx st : Int) from t2] at TG
    have PT := Lib.hid (bPut H1 W1.sz (by omega) WF.out.nf t1' p2 p1' n1 rfl hpl p3 (by right; left; rfl) W1.up)
    have W2 := W1.hang hpl (by have := (addN_len st.ns (elC t space).nd).1; show st.ns.length < (addN st.ns (elC t space).nd).length; omega)
    obtain ⟨m, hm⟩ := hangN_some (p := plIx st.ns (tgtIx st)) (i := st.ns.length) n1
    obtain ⟨n', hn', f1, f2, f3, f4, -⟩ := hangN_cases (by omega) hm
    rw [n1] at hn'
    obtain rfl := Option.some.inj hn'
    have q4 : wc.cell? ⟨h.b, 1, none⟩ = some (.pointer (some ⟨h.s, 0, none⟩)) := H1.choose_spec.bc.2.1
    have PU := Lib.hid (fun (W : World) (c2 : Col) (H2 : BRep W c2 h { st with ns := hangN (addN st.ns (elC t space).nd) (plIx st.ns (tgtIx st)) st.ns.length }) => sPush H2 W2.sz (by omega) (by show st.stk.length < 512; omega) hm (by rw [f1]; rfl))
    rw [f2, f4] at PU
    clear t1 t2 t3 p1 p2 p3 n1 t1' p1' W1 W2 hm f1 f2 f3 f4 q0 q1 q2
    go_wp2_with (go_at_call 66; refine TG.out.mono ?_; rintro e w1 ⟨rfl, rfl⟩)
    refine PT.out.mono ?_
    rintro e w2 ⟨rfl, c2, H2, hm2⟩
    have q5 : w2.cell? ⟨h.b, 1, none⟩ = some (.pointer (some ⟨h.s, 0, none⟩)) := H2.choose_spec.bc.2.1
    go_wp2_with fail
    refine (PU.out _ _ H2).mono ?_
    rintro e w3 ⟨rfl, c3, H3, hm3⟩
    go_wp2_with fail
    refine (bFail0 H3).mono ?_
    rintro e w4 ⟨rfl, rfl⟩
    go_wp2_with fail
    go_ret
    exact ⟨rfl, c3, H3, hm1.trans (hm2.trans hm3)⟩
theorem Wf.ins {N : Nat} {st : St} (wf : Wf N st) (t : Tok) (space : Int) (hta : t.attrs.length ≤ 1000) : Wf (N + 1003) (insM st t space) := by
  have W1 : Wf (N + 1002) { st with ns := addN st.ns (elC t space).nd } := wf.add (by omega) (by simp [elC]; omega) (Nat.zero_le _)
  obtain ⟨n, t1, t2, t3⟩ := wf.tgt
  obtain ⟨np, p1, p2, p3⟩ := wf.place t1 t3
  obtain ⟨k, n1⟩ := addN_new st.ns (elC t space).nd
  have hpl : plIx st.ns (tgtIx st) < st.ns.length := (List.getElem?_eq_some_iff.1 p1).1
  have W2 := W1.hang hpl (by have := (addN_len st.ns (elC t space).nd).1; show st.ns.length < (addN st.ns (elC t space).nd).length; omega)
  obtain ⟨m, hm⟩ := hangN_some (p := plIx st.ns (tgtIx st)) (i := st.ns.length) n1
  obtain ⟨n', hn', f1, f2, f3, f4, -⟩ := hangN_cases (by omega) hm
  rw [n1] at hn'
  obtain rfl := Option.some.inj hn'
  have := W2.push hm (by rw [f1]; rfl)
  rw [f2, f4] at this
  exact this

/-- The tag of an element for which no tag stands. -/
def impTok (name : Str) : Tok := { kind := 2, name := name, text := ⟨#[]⟩, attrs := [], aA := none, acap := 0, dup := false, self := false, quirks := false, frm := -1, to_ := -1 }

set_option maxHeartbeats 1000000 in
theorem bImply {w : World} {c : Col} {h : Hd} {st : St} (H : BRep w c h st) {N : Nat} (wf : Wf N st) (hN : N ≤ 10000000) (hl : st.stk.length < 512) (name : Str) :
    Calls Tryz.prog 47 #[.pointer (some ⟨h.b, 0, none⟩), .string name] w (OkB h (insM st (impTok name) 0) (.int .i64 st.ns.length) w c) := by
  have IN := Lib.hid (bInsert H wf hN hl (impTok name) 0 ⟨fun _ => rfl, fun _ e => by cases e⟩ (by simp [impTok]))
  clear H wf
  go_enter Tryz.func47, Tryz.ntmps47
  go_wp2_with fail
  refine IN.out.mono ?_
  rintro e w1 ⟨rfl, c1, H1, hm1⟩
  go_wp2_with fail
  go_ret
  exact ⟨rfl, c1, H1, hm1⟩

/-- An element more that is not open. -/
def onlyM (st : St) (t : Tok) : St := { insM st t 0 with stk := st.stk }

set_option maxHeartbeats 1000000 in
theorem bOnly {w : World} {c : Col} {h : Hd} {st : St} (H : BRep w c h st) {N : Nat} (wf : Wf N st) (hN : N ≤ 10000000) (hl : st.stk.length < 512) (t : Tok) (hs : Src w t.aA (attrCells t.attrs)) (hta : t.attrs.length ≤ 1000) :
    Calls Tryz.prog 46 #[.pointer (some ⟨h.b, 0, none⟩), t.val] w (OkB h (onlyM st t) (.int .i64 st.ns.length) w c) := by
  have hb0 : Below w.heap.size w (w.alloc (.cells t.cells.toArray 24)) := below_alloc (Below.refl _ _) _
  have IN := Lib.hid (bInsert (H.loc hb0) wf hN hl t 0 (hs.loc hb0) hta)
  have PP := Lib.hid (fun (W : World) (c2 : Col) (H2 : BRep W c2 h (insM st t 0)) => sPop H2 (by show (st.stk ++ _).length ≤ _; simp; omega))
  have h0 : (0 : Int) ≤ (st.ns.length : Int) := by omega
  clear H wf hs
  unfold Tok.val Tok.cells
  go_enter Tryz.func46, Tryz.ntmps46
  go_wp2_with fail
  refine IN.out.mono ?_
  rintro e w1 ⟨rfl, c1, H1, hm1⟩
  have q1 : w1.cell? ⟨h.b, 1, none⟩ = some (.pointer (some ⟨h.s, 0, none⟩)) := H1.choose_spec.bc.2.1
  go_wp2_with fail
  refine (PP.out _ _ H1).mono ?_
  rintro e w2 ⟨rfl, c2, H2, hm2⟩
  go_wp2_with fail
  go_ret
  refine ⟨rfl, c2, ?_, (Mv.of_below hb0).trans (hm1.trans hm2)⟩
  have e : ({ insM st t 0 with stk := (insM st t 0).stk.dropLast } : St) = onlyM st t := by unfold onlyM insM; simp
  rw [← e]
  exact H2
theorem Wf.only {N : Nat} {st : St} (wf : Wf N st) (t : Tok) (hta : t.attrs.length ≤ 1000) : Wf (N + 1003) (onlyM st t) :=
  (wf.ins t 0 hta).sub (l := st.stk) fun o ho => List.mem_append_left _ ho

end Go.Proofs.YtjmlkmlbhfkhbaaGreatDoor
namespace Go.Proofs.YtjmlkmlbhfkhbaaGreatDoor
open Go Go.RowKit

def FV (w : World) (l a : Nat) (A : Option Addr) (cap : Nat) (fmt : List Int) : Prop :=
  w.cell? ⟨l, 0, none⟩ = some (.pointer (some ⟨a, 0, none⟩)) ∧ w.cell? ⟨l, 1, none⟩ = some (.slice A fmt.length cap) ∧ fmt.length ≤ 1000000 ∧
  (0 < fmt.length → ∃ g, A = some ⟨g, 0, none⟩ ∧ (∀ k n, fmt[k]? = some n → w.cell? ⟨g, k, none⟩ = some (.int .i64 n)) ∧ ∀ k, w.frozen? ⟨g, k, none⟩ = false)

theorem BRepX.fv {w : World} {c : Col} {h : Hd} {x : Sh} {st : St} (H : BRepX w c h x st) (hl : st.fmt.length ≤ 1000000) : FV w h.l h.a x.fA x.fcap st.fmt := by
  refine ⟨H.hl.cell 0, H.hl.cell 1, hl, fun h0 => ?_⟩
  obtain ⟨g, hA, -, -, hc, hf⟩ := H.fmt.at_ h0
  exact ⟨g, hA, fun k n hn => hc k _ (by simp [intCells, hn]), hf⟩

section
variable {w : World} {l a : Nat} {A : Option Addr} {cap : Nat} {fmt : List Int}
set_option maxHeartbeats 400000 in
theorem fLen (H : FV w l a A cap fmt) : Calls Tryz.prog 70 #[.pointer (some ⟨l, 0, none⟩)] w fun e w' => e = .returned (.int .i64 fmt.length) ∧ w = w' := by
  have a1 := H.2.1
  clear H
  go_enter Tryz.func70, Tryz.ntmps70
  go_wp2_with fail
  go_ret
  exact ⟨rfl, rfl⟩
set_option maxHeartbeats 400000 in
theorem fNone (H : FV w l a A cap fmt) : Calls Tryz.prog 153 #[.pointer (some ⟨l, 0, none⟩)] w fun e w' => e = .returned (.bool false) ∧ w = w' := by
  have a1 := H.1
  clear H
  go_enter Tryz.func153, Tryz.ntmps153
  go_wp2_with fail
  go_ret
  exact ⟨rfl, rfl⟩
set_option maxHeartbeats 1000000 in
theorem fAt (H : FV w l a A cap fmt) {k : Nat} {n : Int} (hk : fmt[k]? = some n) : Calls Tryz.prog 62 #[.pointer (some ⟨l, 0, none⟩), .int .i64 k] w fun e w' => e = .returned (.tuple #[.int .i64 n, .bool (n == -1)]) ∧ ∃ m, w' = w.drewN m := by
  have L := Lib.hid (fLen H)
  have hlt := (List.getElem?_eq_some_iff.1 hk).1
  obtain ⟨g, rfl, hc, -⟩ := H.2.2.2 (by omega)
  have c0 := hc k n hk
  have a1 := H.2.1
  have h0 : (0 : Int) ≤ (k : Int) := by omega
  have h1 : (k : Int) < (fmt.length : Int) := by omega
  clear H hc hk
  go_enter Tryz.func62, Tryz.ntmps62
  go_wp2_with (go_at_call 70; refine L.out.mono ?_; rintro e w1 ⟨rfl, rfl⟩)
  go_quiet (fail)
  go_wp2_with fail
  refine bodyPost_ret (results_tmp2 rfl _ _ _) rfl ?_
  exact ⟨rfl, _, rfl⟩
end

section
variable {w : World} {c : Col} {h : Hd} {st : St}
theorem fld0 (n : Nd) (A : Option Addr) (c1 : Nat) (K : Option Addr) (c2 : Nat) (W : World) : (Instr.field 58 (ndVal n A c1 K c2) 0).run Tryz.prog W = .ok (.int .i64 n.kind) W := by
  simp [Instr.field, run_underlying Tryz.underlying58, ndVal, asAgg, go_sem]
theorem fld6 (n : Nd) (A : Option Addr) (c1 : Nat) (K : Option Addr) (c2 : Nat) (W : World) : (Instr.field 58 (ndVal n A c1 K c2) 6).run Tryz.prog W = .ok (.int .i64 n.parent) W := by
  simp [Instr.field, run_underlying Tryz.underlying58, ndVal, asAgg, go_sem]

set_option maxRecDepth 100000 in
set_option maxHeartbeats 1000000 in
theorem fMay (H : BRep w c h st) {N : Nat} (hs : Sz N st) (hN : N ≤ 100000000) (hl : st.fmt.length ≤ 1000000) {i : Nat} {n : Nd} (hi : st.ns[i]? = some n) (hk : n.kind = 3) :
    Calls Tryz.prog 106 #[.pointer (some ⟨h.l, 0, none⟩), .int .i64 i] w fun e w' => e = .returned (.int .i64 0) ∧ Below w.heap.size w w' := by
  have ND := Lib.hid (aNodeB H hs hN hi)
  have N1 := Lib.hid (fNone (H.choose_spec.fv hl))
  have a0 := (H.choose_spec.fv hl).1
  have hk' : (n.kind != 3) = false := by simp [hk]
  clear H hs hi hk
  go_enter Tryz.func106, Tryz.ntmps106
  go_wp2_with (first
    | (go_at_call 153; refine N1.out.mono ?_; rintro e w1 ⟨rfl, rfl⟩)
    | (fail))
  refine ND.out.mono ?_
  rintro e w2 ⟨A, c1, K, c2, rfl, hb2, -, -⟩
  have fk := fld0 n A c1 K c2
  unfold ndVal at fk ⊢
  go_wp2_with fail
  go_ret
  exact ⟨rfl, hb2⟩

set_option maxRecDepth 100000 in
set_option maxHeartbeats 1000000 in
/-- lay at the end. -/
theorem fLay (H : BRep w c h st) (hl : st.fmt.length < 64) (i : Int) :
    Calls Tryz.prog 110 #[.pointer (some ⟨h.l, 0, none⟩), .int .i64 st.fmt.length, .int .i64 i] w (OkB h { st with fmt := st.fmt ++ [i] } (.int .i64 0) w c) := by
  obtain ⟨X, H⟩ := H
  have a1 : w.cell? ⟨h.l, 1, none⟩ = some (.slice X.fA st.fmt.length X.fcap) := H.hl.cell 1
  have hll := H.hl.lt
  have h1 : (st.fmt.length : Int) < 64 := by omega
  go_enter Tryz.func110, Tryz.ntmps110
  go_wp2_with fail
  refine Calls.mono (insInt (k := (h.sd, 9, 0)) (by exact H.fmt.kp (kp_below (below_alloc (Below.refl _ _) _))) i (by exact HB.at_ rfl) (by omega)) ?_
  rintro e w2 ⟨A2, cp2, c2, rfl, hrow2, hmv2⟩
  have hm0 : Mv (· = (h.sd, 9, 0)) w c w2 c2 := Mv.trans (Mv.of_below (below_alloc (Below.refl _ _) _)) hmv2
  have hl2 := H.hl.kp (hm0.kp (k := (h.sd, 8, 0)) (by simp))
  have m1 := hl2.cell 1
  have m2 := hl2.frozen 1
  simp only [List.getElem?_cons_succ, List.getElem?_cons_zero] at m1
  have hrow3 : RowOk w2 c2 (h.sd, 9, 0) 3 1 A2 (st.fmt ++ [i]).length cp2 (intCells (st.fmt ++ [i])) := by simpa [intCells] using hrow2
  have SS := setFmt H hrow3 hm0
  rw [show (st.fmt ++ [i]).length = st.fmt.length + 1 by simp] at SS
  have SSH := Lib.hid SS
  clear SS hrow3 hl2
  go_wp2_with fail
  go_ret
  exact ⟨rfl, c2, ⟨_, SSH.out.1⟩, SSH.out.2⟩

set_option maxHeartbeats 1000000 in
theorem fMark (H : BRep w c h st) (hl : st.fmt.length < 64) :
    Calls Tryz.prog 194 #[.pointer (some ⟨h.l, 0, none⟩)] w (OkB h { st with fmt := st.fmt ++ [-1] } (.int .i64 0) w c) := by
  have LY := Lib.hid (fLay H hl (-1))
  obtain ⟨X, H⟩ := H
  have N1 := Lib.hid (fNone (H.fv (by omega)))
  have a1 := (H.fv (by omega)).2.1
  clear H
  go_enter Tryz.func194, Tryz.ntmps194
  go_wp2_with (first
    | (go_at_call 153; refine N1.out.mono ?_; rintro e w1 ⟨rfl, rfl⟩)
    | (go_at_call 110; refine LY.out.mono ?_; rintro e w1 ⟨rfl, c1, H1, hm1⟩))
  go_ret
  exact ⟨rfl, c1, H1, hm1⟩

set_option maxHeartbeats 1000000 in
theorem fOpen0 {l a : Nat} {A : Option Addr} {cap : Nat} (H : FV w l a A cap []) : Calls Tryz.prog 108 #[.pointer (some ⟨l, 0, none⟩)] w fun e w' => e = .returned (.int .i64 0) ∧ w = w' := by
  have L := Lib.hid (fLen H)
  clear H
  go_enter Tryz.func108, Tryz.ntmps108
  go_wp2_with (first
    | (go_at_call 155; go_in)
    | (go_at_call 70; refine L.out.mono ?_; rintro e w1 ⟨rfl, rfl⟩))
  go_loop [7] (fun t => t = .int .i64 (-1)) (fun _ => 0)
  case atStart => rfl
  case round =>
    obtain rfl := hrel
    go_wp2_with fail
    go_ret
    exact ⟨rfl, rfl⟩
end

end Go.Proofs.YtjmlkmlbhfkhbaaGreatDoor
