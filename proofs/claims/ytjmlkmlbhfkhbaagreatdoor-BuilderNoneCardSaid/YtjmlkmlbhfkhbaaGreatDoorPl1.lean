/-
  Plain laws of the nodes' lists: adding, hanging; what a good state is.
-/
import Derived.Test.YtjmlkmlbhfkhbaaGreatDoorBld3
import Derived.Test.YtjmlkmlbhfkhbaaGreatDoorAr3
namespace Go.Proofs.YtjmlkmlbhfkhbaaGreatDoor
open Go Go.RowKit

theorem addN_len (ns : List Nd) (n : Nd) : ns.length + 1 ≤ (addN ns n).length ∧ (addN ns n).length ≤ ns.length + 2 := by
  unfold addN
  split <;> simp
theorem addN_old {ns : List Nd} {n : Nd} {i : Nat} (hi : i < ns.length) : (addN ns n)[i]? = ns[i]? := by
  unfold addN
  split <;> rw [List.getElem?_append_left hi]
theorem addN_new (ns : List Nd) (n : Nd) : ∃ k, (addN ns n)[ns.length]? = some { bareNd n with content := k } := by
  unfold addN
  split
  · exact ⟨(ns.length : Int) + 1, by simp⟩
  · exact ⟨0, by simp [bareNd]⟩
/-- What is in a list behind addN. -/
theorem addN_cases {ns : List Nd} {n : Nd} {i : Nat} {m : Nd} (h : (addN ns n)[i]? = some m) :
    ns[i]? = some m ∨ (i = ns.length ∧ (∃ k, m = { bareNd n with content := k }) ∧ (tmplB n = true → m.content = (ns.length : Int) + 1)) ∨ (i = ns.length + 1 ∧ m = contentNd ∧ tmplB n = true) := by
  rcases Nat.lt_or_ge i ns.length with hi | hi
  · rw [addN_old hi] at h; exact .inl h
  · unfold addN at h
    split at h
    · rename_i ht
      rw [List.getElem?_append_right hi] at h
      obtain ⟨d, rfl⟩ : ∃ d, i = ns.length + d := ⟨i - ns.length, by omega⟩
      rw [Nat.add_sub_cancel_left] at h
      match d with
      | 0 => simp at h; exact .inr (.inl ⟨by omega, ⟨_, h.symm⟩, fun _ => by rw [← h]⟩)
      | 1 => simp at h; exact .inr (.inr ⟨by omega, h.symm, ht⟩)
      | d + 2 => simp at h
    · rename_i ht
      rw [List.getElem?_append_right hi] at h
      obtain ⟨d, rfl⟩ : ∃ d, i = ns.length + d := ⟨i - ns.length, by omega⟩
      rw [Nat.add_sub_cancel_left] at h
      match d with
      | 0 => simp at h; exact .inr (.inl ⟨by omega, ⟨0, by rw [← h]; rfl⟩, fun t => absurd t (by simpa using ht)⟩)
      | d + 1 => simp at h

theorem hangN_len (ns : List Nd) (p i : Nat) : (hangN ns p i).length = ns.length := by
  unfold hangN
  split <;> simp
/-- What is in a list behind hangN. -/
theorem hangN_cases {ns : List Nd} {p i j : Nat} {m : Nd} (hpi : p ≠ i) (h : (hangN ns p i)[j]? = some m) :
    ∃ n, ns[j]? = some n ∧ m.kind = n.kind ∧ m.name = n.name ∧ m.text = n.text ∧ m.space = n.space ∧ m.attrs = n.attrs ∧ m.content = n.content ∧
      (m.parent = n.parent ∨ (j = i ∧ m.parent = (p : Int))) ∧ (m.kids = n.kids ∨ (j = p ∧ m.kids = n.kids ++ [(i : Int)])) := by
  unfold hangN at h
  split at h
  · rename_i np ni h1 h2
    simp only [List.getElem?_set] at h
    by_cases hij : i = j
    · subst hij
      rw [if_pos rfl] at h
      split at h
      · obtain rfl := Option.some.inj h
        exact ⟨ni, h2, rfl, rfl, rfl, rfl, rfl, rfl, .inr ⟨rfl, rfl⟩, .inl rfl⟩
      · cases h
    · rw [if_neg hij] at h
      by_cases hpj : p = j
      · subst hpj
        rw [if_pos rfl] at h
        split at h
        · obtain rfl := Option.some.inj h
          exact ⟨np, h1, rfl, rfl, rfl, rfl, rfl, rfl, .inl rfl, .inr ⟨rfl, rfl⟩⟩
        · cases h
      · rw [if_neg hpj] at h
        exact ⟨m, h, rfl, rfl, rfl, rfl, rfl, rfl, .inl rfl, .inl rfl⟩
  · exact ⟨m, h, rfl, rfl, rfl, rfl, rfl, rfl, .inl rfl, .inl rfl⟩
theorem hangN_some {ns : List Nd} {p i j : Nat} {n : Nd} (h : ns[j]? = some n) : ∃ m, (hangN ns p i)[j]? = some m := by
  have hj := (List.getElem?_eq_some_iff.1 h).1
  exact ⟨_, List.getElem?_eq_getElem (by rw [hangN_len]; exact hj)⟩

/-- A good state, bounded by N. -/
structure Wf (N : Nat) (st : St) : Prop where
  sz : Sz N st
  op : OpenOk st
  up : UpNs st.ns
  doc : ∀ n, st.ns[0]? = some n → n.kind = 1
  cont : ∀ (i : Nat) (n : Nd), st.ns[i]? = some n → htmlN n [nTemplate] = true → ∃ (m : Nat) (nc : Nd), n.content = (m : Int) ∧ st.ns[m]? = some nc ∧ nc.kind = 6
  kid : ∀ (i : Nat) (n : Nd), st.ns[i]? = some n → ∀ k ∈ n.kids, 0 ≤ k ∧ k < (st.ns.length : Int)
  nf : st.foster = false

theorem Wf.more {N M : Nat} {st : St} (h : Wf N st) (hm : N ≤ M) : Wf M st :=
  ⟨⟨Nat.le_trans h.sz.1 hm, h.sz.2.1, fun i n hi => by have := h.sz.2.2 i n hi; omega⟩, h.op, h.up, h.doc, h.cont, h.kid, h.nf⟩

/-- The target's index, and the index at its place. -/
def tgtIx (st : St) : Nat := (topD st.stk).toNat
def plIx (ns : List Nd) (t : Nat) : Nat := match ns[t]? with | some n => (placeOf t n).toNat | none => 0

theorem topOf_nil : topOf [] = -1 := by unfold topOf atOf; simp
theorem topOf_some {stk : List OpE} {o : OpE} (h : stk[stk.length - 1]? = some o) : topOf stk = o.node := by
  have hl := (List.getElem?_eq_some_iff.1 h).1
  unfold topOf atOf
  rw [if_pos (by omega), show ((stk.length : Int) - 1).toNat = stk.length - 1 by omega, h]

/-- The target is a node: the document, or an open element. -/
theorem Wf.tgt {N : Nat} {st : St} (h : Wf N st) : ∃ n, st.ns[tgtIx st]? = some n ∧ topD st.stk = (tgtIx st : Int) ∧ (n.kind = 1 ∨ n.kind = 3) := by
  by_cases h0 : st.stk.length = 0
  · have hnil : st.stk = [] := List.eq_nil_of_length_eq_zero h0
    have e : topD st.stk = 0 := by unfold topD; rw [hnil, topOf_nil]; rfl
    have hne := h.sz.2.1
    refine ⟨st.ns[0], ?_, ?_, .inl (h.doc _ (List.getElem?_eq_getElem (by omega)))⟩
    · unfold tgtIx; rw [e]; exact List.getElem?_eq_getElem (by omega)
    · unfold tgtIx; rw [e]; rfl
  · obtain ⟨o, ho⟩ : ∃ o, st.stk[st.stk.length - 1]? = some o := ⟨_, List.getElem?_eq_getElem (by omega)⟩
    obtain ⟨i, n, e1, e2, e3, -, -⟩ := h.op _ o ho
    have e : topD st.stk = (i : Int) := by
      unfold topD
      rw [topOf_some ho, e1, if_neg (by omega)]
    refine ⟨n, ?_, ?_, .inr e3⟩
    · unfold tgtIx; rw [e]; simpa using e2
    · unfold tgtIx; rw [e]; rfl

/-- The place of a node that may have kids: a node that may have kids, with a number. -/
theorem Wf.place {N : Nat} {st : St} (h : Wf N st) {t : Nat} {n : Nd} (hn : st.ns[t]? = some n) (hk : n.kind = 1 ∨ n.kind = 3) :
    ∃ np, st.ns[plIx st.ns t]? = some np ∧ placeOf t n = (plIx st.ns t : Int) ∧ (np.kind = 1 ∨ np.kind = 3 ∨ np.kind = 6) := by
  unfold plIx
  rw [hn]
  simp only
  unfold placeOf
  cases hq : htmlN n [nTemplate]
  · refine ⟨n, by simpa using hn, by simp, ?_⟩
    rcases hk with hk | hk
    · exact .inl hk
    · exact .inr (.inl hk)
  · obtain ⟨m, nc, e1, e2, e3⟩ := h.cont t n hn hq
    refine ⟨nc, ?_, ?_, .inr (.inr e3)⟩
    · simp [e1, e2]
    · simp [e1]

theorem tmplB_htmlN (n : Nd) : tmplB n = htmlN n [nTemplate] := by unfold tmplB htmlN inS; simp
theorem htmlN_congr {m n : Nd} (h1 : m.kind = n.kind) (h2 : m.space = n.space) (h3 : m.name = n.name) (l : List Str) : htmlN m l = htmlN n l := by unfold htmlN; rw [h1, h2, h3]

theorem Wf.add {N M : Nat} {st : St} (h : Wf N st) {nd : Nd} (hM : N + 2 ≤ M) (ha : nd.attrs.length ≤ M) (ht : nd.text.size ≤ M) : Wf M { st with ns := addN st.ns nd } := by
  have hlen := addN_len st.ns nd
  have hsz := h.sz
  refine ⟨⟨?_, ?_, ?_⟩, ?_, ?_, ?_, ?_, ?_, h.nf⟩
  · have := hsz.1; show (addN st.ns nd).length ≤ M; omega
  · show (addN st.ns nd).length ≠ 0; omega
  · intro i m hm
    rcases addN_cases hm with h1 | ⟨-, ⟨k, rfl⟩, -⟩ | ⟨-, rfl, -⟩
    · have := hsz.2.2 i m h1; omega
    · exact ⟨ha, Nat.zero_le _, ht⟩
    · exact ⟨Nat.zero_le _, Nat.zero_le _, Nat.zero_le _⟩
  · intro k o ho
    obtain ⟨i, n, e1, e2, e3⟩ := h.op k o ho
    exact ⟨i, n, e1, by show (addN st.ns nd)[i]? = _; rw [addN_old (List.getElem?_eq_some_iff.1 e2).1]; exact e2, e3⟩
  · intro i m hm
    rcases addN_cases hm with h1 | ⟨rfl, ⟨k, rfl⟩, -⟩ | ⟨rfl, rfl, -⟩
    · exact h.up i m h1
    · simp [bareNd]; omega
    · simp [contentNd]; omega
  · intro m hm
    rw [show ({ st with ns := addN st.ns nd } : St).ns = addN st.ns nd from rfl, addN_old (by have := hsz.2.1; omega)] at hm
    exact h.doc m hm
  · intro i m hm hq
    rcases addN_cases hm with h1 | ⟨rfl, ⟨k, rfl⟩, hc⟩ | ⟨rfl, rfl, -⟩
    · obtain ⟨j, nc, e1, e2, e3⟩ := h.cont i m h1 hq
      exact ⟨j, nc, e1, by show (addN st.ns nd)[j]? = _; rw [addN_old (List.getElem?_eq_some_iff.1 e2).1]; exact e2, e3⟩
    · have htm : tmplB nd = true := by rw [tmplB_htmlN]; exact hq
      refine ⟨st.ns.length + 1, contentNd, hc htm, ?_, rfl⟩
      show (addN st.ns nd)[st.ns.length + 1]? = _
      unfold addN
      rw [htm]
      simp
    · exact absurd hq (by decide)
  · intro i m hm k hk
    rcases addN_cases hm with h1 | ⟨rfl, ⟨k', rfl⟩, -⟩ | ⟨rfl, rfl, -⟩
    · have := h.kid i m h1 k hk
      refine ⟨this.1, ?_⟩
      show k < ((addN st.ns nd).length : Int)
      omega
    · simp [bareNd] at hk
    · simp [contentNd] at hk

theorem Wf.hang {N : Nat} {st : St} (h : Wf N st) {p i : Nat} (hpi : p < i) (hi : i < st.ns.length) : Wf (N + 1) { st with ns := hangN st.ns p i } := by
  have hlen := hangN_len st.ns p i
  have hsz := h.sz
  refine ⟨⟨?_, ?_, ?_⟩, ?_, ?_, ?_, ?_, ?_, h.nf⟩
  · have := hsz.1; show (hangN st.ns p i).length ≤ N + 1; omega
  · show (hangN st.ns p i).length ≠ 0; rw [hlen]; exact hsz.2.1
  · intro j m hm
    obtain ⟨n, hn, e1, e2, e3, e4, e5, e6, e7, e8⟩ := hangN_cases (by omega) hm
    have := hsz.2.2 j n hn
    refine ⟨by rw [e5]; omega, ?_, by rw [e3]; omega⟩
    rcases e8 with e8 | ⟨-, e8⟩ <;> rw [e8]
    · omega
    · simp; omega
  · intro k o ho
    obtain ⟨j, n, e1, e2, e3, e4, e5⟩ := h.op k o ho
    obtain ⟨m, hm⟩ := hangN_some (p := p) (i := i) e2
    obtain ⟨n', hn', f1, f2, f3, f4, -⟩ := hangN_cases (by omega) hm
    rw [e2] at hn'
    obtain rfl := Option.some.inj hn'
    exact ⟨j, m, e1, hm, f1.trans e3, f4.trans e4, f2.trans e5⟩
  · intro j m hm
    obtain ⟨n, hn, -, -, -, -, -, -, e7, -⟩ := hangN_cases (by omega) hm
    have := h.up j n hn
    rcases e7 with e7 | ⟨rfl, e7⟩ <;> rw [e7]
    · exact this
    · omega
  · intro m hm
    obtain ⟨n, hn, e1, -⟩ := hangN_cases (by omega) hm
    rw [e1]
    exact h.doc n hn
  · intro j m hm hq
    obtain ⟨n, hn, e1, e2, e3, e4, e5, e6, -, -⟩ := hangN_cases (by omega) hm
    rw [htmlN_congr e1 e4 e2] at hq
    obtain ⟨k, nc, g1, g2, g3⟩ := h.cont j n hn hq
    obtain ⟨m', hm'⟩ := hangN_some (p := p) (i := i) g2
    obtain ⟨n', hn', f1, -⟩ := hangN_cases (by omega) hm'
    rw [g2] at hn'
    obtain rfl := Option.some.inj hn'
    exact ⟨k, m', by rw [e6]; exact g1, hm', f1.trans g3⟩
  · intro j m hm k hk
    obtain ⟨n, hn, -, -, -, -, -, -, -, e8⟩ := hangN_cases (by omega) hm
    show 0 ≤ k ∧ k < ((hangN st.ns p i).length : Int)
    rw [hlen]
    rcases e8 with e8 | ⟨-, e8⟩ <;> rw [e8] at hk
    · exact h.kid j n hn k hk
    · rw [List.mem_append] at hk
      rcases hk with hk | hk
      · exact h.kid j n hn k hk
      · simp at hk; omega

theorem Wf.push {N : Nat} {st : St} (h : Wf N st) {i : Nat} {n : Nd} (hi : st.ns[i]? = some n) (hk : n.kind = 3) : Wf N { st with stk := st.stk ++ [⟨(i : Int), n.space, n.name⟩] } := by
  refine ⟨h.sz, ?_, h.up, h.doc, h.cont, h.kid, h.nf⟩
  intro k o ho
  have ho' : (st.stk ++ [(⟨(i : Int), n.space, n.name⟩ : OpE)])[k]? = some o := ho
  rw [List.getElem?_append] at ho'
  split at ho'
  · exact h.op k o ho'
  · have : o = ⟨(i : Int), n.space, n.name⟩ := by
      rcases hd : k - st.stk.length with _ | d
      · rw [hd] at ho'; simp at ho'; exact ho'.symm
      · rw [hd] at ho'; simp at ho'
    subst this
    exact ⟨i, n, rfl, hi, hk, rfl, rfl⟩

/-- A state with another stack that is a part of it. -/
theorem Wf.sub {N : Nat} {st : St} (h : Wf N st) {l : List OpE} (hl : ∀ o ∈ l, o ∈ st.stk) : Wf N { st with stk := l } := by
  refine ⟨h.sz, ?_, h.up, h.doc, h.cont, h.kid, h.nf⟩
  intro k o ho
  have hm := hl o (List.mem_of_getElem? ho)
  obtain ⟨j, hj, rfl⟩ := List.getElem_of_mem hm
  exact h.op j _ (List.getElem?_eq_getElem hj)

end Go.Proofs.YtjmlkmlbhfkhbaaGreatDoor
