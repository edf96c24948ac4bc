/-
  What the heads' steps keep.
-/
import Derived.Test.YtjmlkmlbhfkhbaaGreatDoorHp16
set_option linter.unusedSimpArgs false
set_option linter.unusedVariables false
namespace Go.Proofs.YtjmlkmlbhfkhbaaGreatDoor
open Go Go.RowKit

theorem Wf.same {N : Nat} {st st' : St} (h : Wf N st) (e1 : st'.ns = st.ns) (e2 : st'.stk = st.stk) (e3 : st'.foster = st.foster) : Wf N st' := by
  refine ⟨?_, ?_, ?_, ?_, ?_, ?_, ?_⟩
  · have := h.sz; unfold Sz at *; rw [e1]; exact this
  · have := h.op; unfold OpenOk at *; rw [e1, e2]; exact this
  · rw [e1]; exact h.up
  · rw [e1]; exact h.doc
  · rw [e1]; exact h.cont
  · rw [e1]; exact h.kid
  · rw [e3]; exact h.nf

def Em (st : St) : Prop := st.mode = 15 ∨ (st.fmt = [] ∧ st.modes = [])
/-- The invariant of the steps. -/
structure Inv (N : Nat) (st : St) : Prop where
  wf : Wf N st
  shp : Shp st
  em : Em st

theorem IsEl.nz {N : Nat} {st : St} (wf : Wf N st) {b : Nat} {nm : Str} (h : IsEl st.ns b nm) : b ≠ 0 := by
  rintro rfl
  obtain ⟨n, h1, h2, -⟩ := h
  have := wf.doc n h1
  omega

/-- An element is opened in an open element that is no template. -/
theorem ins_grown {N : Nat} {st : St} (wf : Wf N st) {l : List OpE} {o : OpE} (hs : st.stk = l ++ [o]) (hnt : eqS o.name nTemplate = false) {i : Nat} (ho : o.node = (i : Int)) (t : Tok) : Grown st.ns (insM st t 0).ns i t.name 0 := by
  obtain ⟨e1, e2, e3⟩ := pl_top wf hs hnt ho
  have := grown_put (nd := (elC t 0).nd) wf.kid e3 rfl
  show Grown st.ns (hangN (addN st.ns (elC t 0).nd) (plIx st.ns (tgtIx st)) st.ns.length) i t.name 0
  rw [e1, e2]
  exact this
theorem ins_grown0 {N : Nat} {st : St} (wf : Wf N st) (hs : st.stk = []) (t : Tok) : Grown st.ns (insM st t 0).ns 0 t.name 0 := by
  obtain ⟨e1, e2, e3⟩ := pl_nil wf hs
  have := grown_put (nd := (elC t 0).nd) wf.kid e3 rfl
  show Grown st.ns (hangN (addN st.ns (elC t 0).nd) (plIx st.ns (tgtIx st)) st.ns.length) 0 t.name 0
  rw [e1, e2]
  exact this
theorem Grown.isEl {ns ns' : List Nd} {p : Nat} {nm : Str} (h : Grown ns ns' p nm 0) : IsEl ns' ns.length nm := by
  obtain ⟨m, h1, h2, h3, h4⟩ := h.new
  exact ⟨m, h1, h2, h3, h4⟩

theorem startB_one {t : Tok} {nm : Str} (h : startB t [nm] = true) : t.kind = 2 ∧ t.name = nm := by
  unfold startB inS at h
  simp at h
  exact ⟨h.1, eqS_eq h.2⟩
theorem tmpl_html : eqS mHtml nTemplate = false := by decide +kernel
theorem tmpl_head : eqS mHead nTemplate = false := by decide +kernel

/-- No template is open on these stacks. -/
theorem no_tmpl {l : List OpE} (h : ∀ o ∈ l, eqS o.name nTemplate = false) : lastOf l [nTemplate] = -1 := by
  have : ∀ k, lastFrom l [nTemplate] k = -1 := by
    intro k
    induction k with
    | zero => rfl
    | succ k ih =>
      unfold lastFrom
      cases hk : l[k]? with
      | none => simpa using ih
      | some o =>
        have h1 := h o (List.mem_of_getElem? hk)
        have : isH o [nTemplate] = false := by unfold isH inS; simp [h1]
        simp [this, ih]
  exact this _

theorem Shp.no_tmpl {st : St} (h : Shp st) (hm : ownB st.mode = true) : lastOf st.stk [nTemplate] = -1 := by
  cases h with
  | start _ hs _ => rw [hs]; rfl
  | html a hm hs ht => rw [hs]; exact Go.Proofs.YtjmlkmlbhfkhbaaGreatDoor.no_tmpl (by simp [tmpl_html])
  | head a b hr ht hb hab hh =>
    rcases hr with ⟨-, e⟩ | ⟨-, x, hx, e⟩ | ⟨-, e⟩
    · rw [e]; exact Go.Proofs.YtjmlkmlbhfkhbaaGreatDoor.no_tmpl (by simp [tmpl_html, tmpl_head])
    · rw [e]; exact Go.Proofs.YtjmlkmlbhfkhbaaGreatDoor.no_tmpl (by simp [tmpl_html, tmpl_head, hx.nm])
    · rw [e]; exact Go.Proofs.YtjmlkmlbhfkhbaaGreatDoor.no_tmpl (by simp [tmpl_html])
  | raw a b l r hm hr hs hl ht hb hab hh =>
    rcases hr with ⟨-, e⟩ | ⟨-, x, hx, e⟩ | ⟨-, e⟩
    · rw [hs, e]; exact Go.Proofs.YtjmlkmlbhfkhbaaGreatDoor.no_tmpl (by simp [tmpl_html, tmpl_head, hl.nm])
    · rw [hs, e]; exact Go.Proofs.YtjmlkmlbhfkhbaaGreatDoor.no_tmpl (by simp [tmpl_html, tmpl_head, hx.nm, hl.nm])
    · rw [hs, e]; exact Go.Proofs.YtjmlkmlbhfkhbaaGreatDoor.no_tmpl (by simp [tmpl_html, hl.nm])
  | body a b d hm => unfold ownB at *; simp_all
  | tmpl hm => unfold ownB at *; simp_all

theorem Shp.stk_le {st : St} (h : Shp st) (hm : ownB st.mode = true) : st.stk.length ≤ 4 := by
  cases h with
  | start _ hs _ => rw [hs]; simp
  | html a hm hs ht => rw [hs]; simp
  | head a b hr ht hb hab hh => rcases hr with ⟨-, e⟩ | ⟨-, x, hx, e⟩ | ⟨-, e⟩ <;> rw [e] <;> simp
  | raw a b l r hm hr hs hl ht hb hab hh => rcases hr with ⟨-, e⟩ | ⟨-, x, hx, e⟩ | ⟨-, e⟩ <;> rw [hs, e] <;> simp
  | body a b d hm => unfold ownB at *; simp_all
  | tmpl hm => unfold ownB at *; simp_all

variable {N : Nat} {st : St} {t : Tok}

/-- A step that lets the state be. -/
theorem Inv.more {M : Nat} (h : Inv N st) (hm : N ≤ M) : Inv M st := ⟨h.wf.more hm, h.shp, h.em⟩
theorem Em.of {st' : St} (h : Em st) (e1 : st'.mode = st.mode) (e2 : st'.fmt = st.fmt) (e3 : st'.modes = st.modes) : Em st' := by
  unfold Em at *; rw [e1, e2, e3]; exact h
theorem Em.own (h : Em st) (hm : ownB st.mode = true) : st.fmt = [] ∧ st.modes = [] := by
  rcases h with h | h
  · rw [h] at hm; simp [ownB] at hm
  · exact h

theorem Inv.chars (h : Inv N st) {s : Str} (hs : s.size ≤ 1000) : Inv (N + 1003) (chM st s) := by
  obtain ⟨h1, h2⟩ := Inv_chars h.wf h.shp hs
  refine ⟨h1, h2, ?_⟩
  unfold chM
  split
  · exact h.em
  · exact h.em.of rfl rfl rfl
theorem Inv.comment (h : Inv N st) {s : Str} (hs : s.size ≤ 1000) {p : Nat} (hp : p < st.ns.length) : Inv (N + 1003) (cmM st s p) := by
  obtain ⟨h1, h2⟩ := Inv_comment h.wf h.shp hs hp
  exact ⟨h1, h2, h.em.of rfl rfl rfl⟩
theorem Inv.html (h : Inv N st) (ha : t.attrs.length ≤ 1000) : Inv (N + 1003) (htmlM st t) := by
  unfold htmlM
  split
  · exact h.more (by omega)
  · split
    · rename_i n hn
      obtain ⟨h1, h2⟩ := Inv_more h.wf h.shp hn ha
      exact ⟨h1, h2, h.em.of rfl rfl rfl⟩
    · exact h.more (by omega)
theorem Wf.plLt (wf : Wf N st) : plIx st.ns (tgtIx st) < st.ns.length := by
  obtain ⟨n, t1, t2, t3⟩ := wf.tgt
  obtain ⟨np, p1, p2, p3⟩ := wf.place t1 t3
  exact (List.getElem?_eq_some_iff.1 p1).1

structure TkSm (t : Tok) : Prop where
  name : t.name.size ≤ 300
  text : t.text.size ≤ 300
  attrs : t.attrs.length ≤ 10

theorem Inv.initial (h : Inv N st) (ht : TkSm t) (hm : st.mode = 0) : Inv (N + 1003) (initialM st t).1 := by
  have hl : 0 < st.ns.length := by have := h.wf.sz.2.1; omega
  have hem := h.em.own (by rw [hm]; rfl)
  obtain ⟨hs0, he0⟩ : st.stk = [] ∧ ek st.ns 0 = [] := by
    cases h.shp with
    | start _ a b => exact ⟨a, b⟩
    | html _ a => omega
    | head a b hr => rcases hr with ⟨h, -⟩ | ⟨h, -⟩ | ⟨h, -⟩ <;> omega
    | raw _ _ _ _ a => omega
    | body _ _ _ a => omega
    | tmpl a => omega
  unfold initialM
  split
  · exact h.more (by omega)
  · split
    · exact h.comment (by have := ht.text; omega) hl
    · split
      · have WP := h.wf.put (nd := (dtC t.name).nd) (by simp [dtC]) (Nat.zero_le _) hl
        have QP := quiet_put (nd := (dtC t.name).nd) h.wf.kid hl (by simp [dtC])
        exact ⟨WP.same rfl rfl rfl, .start (.inr rfl) hs0 ((QP.eks 0 hl).trans he0), .inr hem⟩
      · exact ⟨(h.wf.more (by omega)).same rfl rfl rfl, .start (.inr rfl) hs0 he0, .inr hem⟩

theorem Inv.befHtml (h : Inv N st) (ht : TkSm t) (hm : st.mode = 1) : Inv (N + 1003) (befHtmlM st t).1 := by
  have hl : 0 < st.ns.length := by have := h.wf.sz.2.1; omega
  have hem := h.em.own (by rw [hm]; rfl)
  obtain ⟨hs0, he0⟩ : st.stk = [] ∧ ek st.ns 0 = [] := by
    cases h.shp with
    | start _ a b => exact ⟨a, b⟩
    | html _ a => omega
    | head a b hr => rcases hr with ⟨h, -⟩ | ⟨h, -⟩ | ⟨h, -⟩ <;> omega
    | raw _ _ _ _ a => omega
    | body _ _ _ a => omega
    | tmpl a => omega
  have key : ∀ u : Tok, u.name = mHtml → u.attrs.length ≤ 1000 → Inv (N + 1003) { insM st u 0 with mode := 2 } := by
    intro u hu ha
    have g := ins_grown0 h.wf hs0 u
    rw [hu] at g
    refine ⟨(h.wf.ins u 0 ha).same rfl rfl rfl, .html st.ns.length rfl ?_ ⟨?_, g.isEl, g.none_, hl⟩, .inr hem⟩
    · show st.stk ++ [⟨(st.ns.length : Int), 0, u.name⟩] = _
      rw [hs0, hu]; rfl
    · show ek (insM st u 0).ns 0 = _
      rw [g.at_, he0]; rfl
  unfold befHtmlM
  split
  · exact h.comment (by have := ht.text; omega) hl
  · split
    · exact h.more (by omega)
    · split
      · exact h.more (by omega)
      · split
        · exact h.more (by omega)
        · split
          · rename_i hs
            exact key t (startB_one hs).2 (by have := ht.attrs; omega)
          · exact key _ rfl (by simp [impTok])

theorem Inv.befHead (h : Inv N st) (ht : TkSm t) (hm : st.mode = 2) : Inv (N + 1003) (befHeadM st t).1 := by
  have hem := h.em.own (by rw [hm]; rfl)
  obtain ⟨a, hs, hT⟩ : ∃ a : Nat, st.stk = [⟨(a : Int), 0, mHtml⟩] ∧ Trunk st.ns a [] := by
    cases h.shp with
    | start a => omega
    | html a _ hs ht => exact ⟨a, hs, ht⟩
    | head a b hr => rcases hr with ⟨h, -⟩ | ⟨h, -⟩ | ⟨h, -⟩ <;> omega
    | raw _ _ _ _ a => omega
    | body _ _ _ a => omega
    | tmpl a => omega
  have key : ∀ u : Tok, u.name = mHead → u.attrs.length ≤ 1000 → Inv (N + 1003) { insM st u 0 with head := st.ns.length, mode := 3 } := by
    intro u hu ha
    have g := ins_grown h.wf (l := []) hs tmpl_html rfl u
    rw [hu] at g
    refine ⟨(h.wf.ins u 0 ha).same rfl rfl rfl, .head a st.ns.length (.inl ⟨rfl, ?_⟩) ?_ g.isEl (by have := hT.html.lt; omega) rfl, .inr hem⟩
    · show st.stk ++ [⟨(st.ns.length : Int), 0, u.name⟩] = _
      rw [hs, hu]; rfl
    · have := hT.into g
      exact this
  unfold befHeadM
  split
  · exact h.comment (by have := ht.text; omega) h.wf.plLt
  · split
    · exact h.more (by omega)
    · split
      · exact h.more (by omega)
      · split
        · exact h.more (by omega)
        · split
          · exact h.html (by have := ht.attrs; omega)
          · split
            · rename_i hs
              exact key t (startB_one hs).2 (by have := ht.attrs; omega)
            · exact key _ rfl (by simp [impTok])

/-- What own leaves, in an element that is none of the trunk's and no template. -/
inductive OwnR (a b : Nat) (s s' : St) : Prop where
  | tmpl (hm : s'.mode = 15)
  | raw (r : OpE) (hm : s'.mode = 7) (hb : s'.back = s.mode) (hs : s'.stk = s.stk ++ [r]) (hl : Loose s'.ns a r) (hr : r.node ≠ (b : Int)) (ht : Trunk s'.ns a [(b : Int)]) (hbe : IsEl s'.ns b mHead) (hh : s'.head = s.head) (hf : s'.fmt = s.fmt) (hmd : s'.modes = s.modes)
  | plain (hm : s'.mode = s.mode) (hb : s'.back = s.back) (hs : s'.stk = s.stk) (ht : Trunk s'.ns a [(b : Int)]) (hbe : IsEl s'.ns b mHead) (hh : s'.head = s.head) (hf : s'.fmt = s.fmt) (hmd : s'.modes = s.modes)

theorem own_cases {s : St} (wf : Wf N s) {a b i : Nat} {l : List OpE} {o : OpE} (hs : s.stk = l ++ [o]) (ho : o.node = (i : Int)) (hnt : eqS o.name nTemplate = false) (hia : i ≠ a) (hi0 : i ≠ 0) (hT : Trunk s.ns a [(b : Int)]) (hb : IsEl s.ns b mHead)
    (hno : lastOf s.stk [nTemplate] < 0) (ht : TkSm t) : Wf (N + 1003) (ownM s t) ∧ OwnR a b s (ownM s t) := by
  have g := ins_grown wf hs hnt ho t
  have T' := hT.grown g hi0 hia
  have B' := hb.keep g.keep
  have ha : t.attrs.length ≤ 1000 := by have := ht.attrs; omega
  have hbl := hb.lt
  have raw : ∀ k, eqS t.name nTemplate = false → Wf (N + 1003) (rawM s t k) ∧ OwnR a b s (rawM s t k) := by
    intro k hk
    refine ⟨(wf.ins t 0 ha).same rfl rfl rfl, .raw ⟨(s.ns.length : Int), 0, t.name⟩ rfl rfl rfl ⟨⟨s.ns.length, rfl, ?_, ?_⟩, hk⟩ ?_ T' B' rfl rfl rfl⟩
    · have := hT.html.lt; omega
    · omega
    · show (s.ns.length : Int) ≠ _; omega
  unfold ownM
  split
  · unfold tmplM
    split
    · exact ⟨(wf.ins t 0 ha).same rfl rfl rfl, .tmpl rfl⟩
    · rw [if_neg (by omega)]
      exact ⟨wf.more (by omega), .plain rfl rfl rfl hT hb rfl rfl rfl⟩
  · rename_i hk
    have hk' : eqS t.name nTemplate = false := by simpa using hk
    repeat' split
    · exact raw _ hk'
    · exact raw _ hk'
    · exact raw _ hk'
    · exact raw _ hk'
    · exact ⟨wf.only t ha, .plain rfl rfl rfl T' B' rfl rfl rfl⟩

/-- What own leaves is a good state where the shape is that of a head. -/
theorem inv_own {s : St} (hs' : Wf (N + 1003) s) (h : Inv N st) {a b : Nat} (hm : ownB st.mode = true) (hr : Rest st.ns st.mode a b st.stk) (hab : a ≠ b) (hh : st.head = (b : Int)) (H : OwnR a b st s) : Inv (N + 1003) s := by
  have hem := h.em.own hm
  cases H with
  | tmpl hm => exact ⟨hs', .tmpl hm, .inl hm⟩
  | raw r hm hb hs hl hr' ht hbe hh' hf hmd => exact ⟨hs', .raw a b st.stk r hm (by rw [hb]; exact hr.keep) hs hl ht hbe hab (hh'.trans hh), .inr ⟨hf.trans hem.1, hmd.trans hem.2⟩⟩
  | plain hm hb hs ht hbe hh' hf hmd => exact ⟨hs', .head a b (by rw [hm, hs]; exact hr.keep) ht hbe hab (hh'.trans hh), .inr ⟨hf.trans hem.1, hmd.trans hem.2⟩⟩

theorem Inv.head (h : Inv N st) (ht : TkSm t) (hm : st.mode = 3 ∨ (st.mode = 4 ∧ (t.kind = 5 ∨ t.kind = 4 ∨ startB t [mHtml] = true ∨ belB t = true))) : Inv (N + 1003) (headM st t).1 := by
  have hown : ownB st.mode = true := by rcases hm with h | ⟨h, -⟩ <;> rw [h] <;> rfl
  have hem := h.em.own hown
  have hno := h.shp.no_tmpl hown
  obtain ⟨a, b, hr, hT, hb, hab, hh⟩ : ∃ a b : Nat, Rest st.ns st.mode a b st.stk ∧ Trunk st.ns a [(b : Int)] ∧ IsEl st.ns b mHead ∧ a ≠ b ∧ st.head = (b : Int) := by
    cases h.shp with
    | start a => omega
    | html a _ => omega
    | head a b hr ht hb hab hh => exact ⟨a, b, hr, ht, hb, hab, hh⟩
    | raw _ _ _ _ a => omega
    | body _ _ _ a => omega
    | tmpl a => omega
  obtain ⟨l, o, i, e1, e2, e3, e4, e5⟩ : ∃ (l : List OpE) (o : OpE) (i : Nat), st.stk = l ++ [o] ∧ o.node = (i : Int) ∧ eqS o.name nTemplate = false ∧ i ≠ a ∧ i ≠ 0 := by
    rcases hr with ⟨-, e⟩ | ⟨-, x, hx, e⟩ | ⟨h', e⟩
    · exact ⟨[_], _, b, e, rfl, tmpl_head, Ne.symm hab, hb.nz h.wf⟩
    · obtain ⟨i, e1, e2, e3⟩ := hx.node
      exact ⟨[_, _], x, i, e, e1, hx.nm, e2, by omega⟩
    · omega
  have ha : t.attrs.length ≤ 1000 := by have := ht.attrs; omega
  unfold headM
  split
  · exact h.more (by omega)
  · split
    · exact h.chars (by have := ht.text; omega)
    · rename_i k5
      split
      · exact h.comment (by have := ht.text; omega) h.wf.plLt
      · rename_i k4
        split
        · exact h.html ha
        · rename_i kh
          split
          · obtain ⟨W', O'⟩ := own_cases h.wf e1 e2 e3 e4 e5 hT hb (by omega) ht
            exact inv_own W' h hown hr hab hh O'
          · rename_i kb
            have m3 : st.mode = 3 := by
              rcases hm with h | ⟨-, h⟩
              · exact h
              · simp_all
            have hs3 : st.stk = [⟨(a : Int), 0, mHtml⟩, ⟨(b : Int), 0, mHead⟩] := by
              rcases hr with ⟨-, e⟩ | ⟨h', -⟩ | ⟨h', -⟩
              · exact e
              · omega
              · omega
            split
            · rename_i kn
              have g := ins_grown h.wf e1 e3 e2 t
              have hT' := hT.grown g e5 e4
              have hnm := (startB_one kn).2
              refine ⟨(h.wf.ins t 0 ha).same rfl rfl rfl, .head a b (.inr (.inl ⟨rfl, ⟨(st.ns.length : Int), 0, t.name⟩, ⟨⟨st.ns.length, rfl, ?_, ?_⟩, ?_⟩, ?_⟩)) hT' (hb.keep g.keep) hab hh, .inr hem⟩
              · have := hT.html.lt; omega
              · have := hT.html.lt; omega
              · show eqS t.name nTemplate = false
                rw [hnm]; decide +kernel
              · show st.stk ++ [_] = _
                rw [hs3]; rfl
            · split
              · exact h.more (by omega)
              · split
                · exact h.more (by omega)
                · refine ⟨((h.wf.sub (l := st.stk.dropLast) fun o ho => List.dropLast_subset _ ho).more (by omega)).same rfl rfl rfl, .head a b (.inr (.inr ⟨rfl, ?_⟩)) hT hb hab hh, .inr hem⟩
                  show st.stk.dropLast = _
                  rw [hs3]; rfl

theorem nos_bel (h : startB t nosNames = true) : startB t [mHtml] = true ∨ belB t = true := by
  unfold startB inS at h
  simp at h
  obtain ⟨h0, h⟩ := h
  rcases h with h | h | h | h | h | h | h
  · exact .inl (by unfold startB inS; simp [h0, h])
  all_goals
    refine .inr ?_
    unfold belB startB inS
    simp [h0, h]

theorem Inv.noscript (h : Inv N st) (ht : TkSm t) (hm : st.mode = 4) : Inv (N + 1003) (noscriptM st t).1 := by
  have hem := h.em.own (by rw [hm]; rfl)
  unfold noscriptM
  split
  · exact h.more (by omega)
  · split
    · exact h.more (by omega)
    · split
      · exact h.head ht (.inr ⟨hm, by omega⟩)
      · split
        · exact h.head ht (.inr ⟨hm, by omega⟩)
        · split
          · rename_i hn
            exact h.head ht (.inr ⟨hm, by rcases nos_bel hn with h | h <;> simp [h]⟩)
          · split
            · exact h.more (by omega)
            · obtain ⟨a, b, x, hs, hT, hb, hab, hh⟩ : ∃ (a b : Nat) (x : OpE), st.stk = [⟨(a : Int), 0, mHtml⟩, ⟨(b : Int), 0, mHead⟩, x] ∧ Trunk st.ns a [(b : Int)] ∧ IsEl st.ns b mHead ∧ a ≠ b ∧ st.head = (b : Int) := by
                cases h.shp with
                | start a => omega
                | html a _ => omega
                | head a b hr ht hb hab hh =>
                  rcases hr with ⟨h', -⟩ | ⟨-, x, hx, e⟩ | ⟨h', -⟩
                  · omega
                  · exact ⟨a, b, x, e, ht, hb, hab, hh⟩
                  · omega
                | raw _ _ _ _ a => omega
                | body _ _ _ a => omega
                | tmpl a => omega
              refine ⟨((h.wf.sub (l := st.stk.dropLast) fun o ho => List.dropLast_subset _ ho).more (by omega)).same rfl rfl rfl, .head a b (.inl ⟨rfl, ?_⟩) hT hb hab hh, .inr hem⟩
              show st.stk.dropLast = _
              rw [hs]; rfl

theorem Inv.txt (h : Inv N st) (ht : TkSm t) (hm : st.mode = 7) : Inv (N + 1003) (txtM st t).1 := by
  have hem := h.em.own (by rw [hm]; rfl)
  unfold txtM
  split
  · exact h.chars (by have := ht.text; omega)
  · obtain ⟨a, b, l, r, hr, hs, hT, hb, hab, hh⟩ : ∃ (a b : Nat) (l : List OpE) (r : OpE), Rest st.ns st.back a b l ∧ st.stk = l ++ [r] ∧ Trunk st.ns a [(b : Int)] ∧ IsEl st.ns b mHead ∧ a ≠ b ∧ st.head = (b : Int) := by
      cases h.shp with
      | start a => omega
      | html a _ => omega
      | head a b hr => rcases hr with ⟨h', -⟩ | ⟨h', -⟩ | ⟨h', -⟩ <;> omega
      | raw a b l r hm hr hs hl ht hb hab hh => exact ⟨a, b, l, r, hr, hs, ht, hb, hab, hh⟩
      | body _ _ _ a => omega
      | tmpl a => omega
    refine ⟨((h.wf.sub (l := st.stk.dropLast) fun o ho => List.dropLast_subset _ ho).more (by omega)).same rfl rfl rfl, .head a b ?_ hT hb hab hh, .inr hem⟩
    show Rest st.ns st.back a b st.stk.dropLast
    rw [hs, List.dropLast_concat]
    exact hr

/-- After the head. -/
theorem aft_shape (h : Inv N st) (hm : st.mode = 5) : ∃ a b : Nat, st.stk = [⟨(a : Int), 0, mHtml⟩] ∧ Trunk st.ns a [(b : Int)] ∧ IsEl st.ns b mHead ∧ a ≠ b ∧ st.head = (b : Int) := by
  cases h.shp with
  | start a => omega
  | html a _ => omega
  | head a b hr ht hb hab hh =>
    rcases hr with ⟨h', -⟩ | ⟨h', -⟩ | ⟨-, e⟩
    · omega
    · omega
    · exact ⟨a, b, e, ht, hb, hab, hh⟩
  | raw _ _ _ _ a => omega
  | body _ _ _ a => omega
  | tmpl a => omega

theorem headM_end (h : Inv N st) (hm : st.mode = 5) (he : endB t [nTemplate] = true) : headM st t = (st, false) := by
  have hno := h.shp.no_tmpl (by rw [hm]; rfl)
  have hk : t.kind = 3 ∧ t.name = nTemplate := by
    unfold endB inS at he
    simp at he
    exact ⟨he.1, eqS_eq he.2⟩
  have hb : belB t = true := by unfold belB; rw [he]; simp
  have hs : startB t [mHtml] = false := by unfold startB; simp [hk.1]
  unfold headM
  rw [if_neg (by omega), if_neg (by omega), if_neg (by omega), if_neg (by simp [hs]), if_pos hb]
  unfold ownM tmplM
  rw [hk.2, if_pos (by decide +kernel), if_neg (by omega), if_neg (by omega)]

theorem pushM_eq {b : Nat} (hb : IsEl st.ns b mHead) (hh : st.head = (b : Int)) : pushM st = { st with stk := st.stk ++ [⟨(b : Int), 0, mHead⟩] } := by
  obtain ⟨n, h1, h2, h3, h4⟩ := hb
  unfold pushM
  rw [hh, Int.toNat_natCast, h1]
  simp only [h3, h4]

theorem Wf.rem (wf : Wf N st) : Wf N (remM st) := by
  unfold remM
  split
  · exact wf
  · exact wf.sub fun o ho => List.mem_of_mem_eraseIdx ho

theorem Inv.aftHead (h : Inv N st) (ht : TkSm t) (hm : st.mode = 5) : Inv (N + 1003) (aftHeadM st t).1 := by
  have hown : ownB st.mode = true := by rw [hm]; rfl
  have hem := h.em.own hown
  obtain ⟨a, b, hs, hT, hb, hab, hh⟩ := aft_shape h hm
  have ha : t.attrs.length ≤ 1000 := by have := ht.attrs; omega
  have key : ∀ u : Tok, u.name = mBody → u.attrs.length ≤ 1000 → Inv (N + 1003) { insM st u 0 with mode := 6 } := by
    intro u hu ha
    have g := ins_grown h.wf (l := []) hs tmpl_html rfl u
    rw [hu] at g
    refine ⟨(h.wf.ins u 0 ha).same rfl rfl rfl, .body a b st.ns.length rfl ?_ (hT.into g) (hb.keep g.keep) g.isEl, .inr hem⟩
    show st.stk ++ [⟨(st.ns.length : Int), 0, u.name⟩] = _
    rw [hs, hu]; rfl
  unfold aftHeadM
  split
  · exact h.chars (by have := ht.text; omega)
  · split
    · exact h.comment (by have := ht.text; omega) h.wf.plLt
    · split
      · exact h.more (by omega)
      · split
        · exact h.more (by omega)
        · split
          · exact h.html ha
          · split
            · rename_i hs
              exact key t (startB_one hs).2 ha
            · split
              · rename_i he
                rw [headM_end h hm he]
                exact h.more (by omega)
              · split
                · have hp := pushM_eq hb hh
                  have hst : (pushM st).stk = [⟨(a : Int), 0, mHtml⟩] ++ [⟨(b : Int), 0, mHead⟩] := by rw [hp]; show st.stk ++ _ = _; rw [hs]
                  have wp : Wf N (pushM st) := by
                    obtain ⟨n, h1, h2, h3, h4⟩ := hb
                    have := h.wf.push h1 h2
                    rw [h4, h3] at this
                    rw [hp]; exact this
                  have hT' : Trunk (pushM st).ns a [(b : Int)] := by rw [hp]; exact hT
                  have hb' : IsEl (pushM st).ns b mHead := by rw [hp]; exact hb
                  have hno : lastOf (pushM st).stk [nTemplate] < 0 := by
                    rw [hst, no_tmpl (by simp [tmpl_html, tmpl_head])]; decide
                  obtain ⟨W', O'⟩ := own_cases wp hst rfl tmpl_head (Ne.symm hab) (hb.nz h.wf) hT' hb' hno ht
                  have WR := W'.rem
                  have hph : (pushM st).head = (b : Int) := by rw [hp]; exact hh
                  have hpm : (pushM st).mode = 5 := by rw [hp]; exact hm
                  have hpf : (pushM st).fmt = [] ∧ (pushM st).modes = [] := by rw [hp]; exact hem
                  cases O' with
                  | tmpl hm' =>
                    have : (remM (ownM (pushM st) t)).mode = 15 := by unfold remM; split <;> exact hm'
                    exact ⟨WR, .tmpl this, .inl this⟩
                  | raw r hm' hb2 hs2 hl hr' ht2 hbe hh' hf hmd =>
                    have hs3 : (ownM (pushM st) t).stk = [⟨(a : Int), 0, mHtml⟩, ⟨(b : Int), 0, mHead⟩, r] := by rw [hs2, hst]; rfl
                    have he : remM (ownM (pushM st) t) = { ownM (pushM st) t with stk := [⟨(a : Int), 0, mHtml⟩, r], head := (b : Int) } := by
                      unfold remM
                      rw [hs3, hh', hph]
                      have : ixFrom [⟨(a : Int), 0, mHtml⟩, ⟨(b : Int), 0, mHead⟩, r] (b : Int) 3 = 1 := by simp [ixFrom, hr']
                      simp only [List.length_cons, List.length_nil]
                      rw [this, if_neg (by decide)]
                      rfl
                    rw [he] at WR ⊢
                    exact ⟨WR, .raw a b [⟨(a : Int), 0, mHtml⟩] r hm' (.inr (.inr ⟨hb2.trans hpm, rfl⟩)) rfl hl ht2 hbe hab rfl, .inr ⟨hf.trans hpf.1, hmd.trans hpf.2⟩⟩
                  | plain hm' hb2 hs2 ht2 hbe hh' hf hmd =>
                    have hs3 : (ownM (pushM st) t).stk = [⟨(a : Int), 0, mHtml⟩, ⟨(b : Int), 0, mHead⟩] := by rw [hs2, hst]; rfl
                    have he : remM (ownM (pushM st) t) = { ownM (pushM st) t with stk := [⟨(a : Int), 0, mHtml⟩], head := (b : Int) } := by
                      unfold remM
                      rw [hs3, hh', hph]
                      have : ixFrom [⟨(a : Int), 0, mHtml⟩, ⟨(b : Int), 0, mHead⟩] (b : Int) 2 = 1 := by simp [ixFrom]
                      simp only [List.length_cons, List.length_nil]
                      rw [this, if_neg (by decide)]
                      rfl
                    rw [he] at WR ⊢
                    exact ⟨WR, .head a b (.inr (.inr ⟨hm'.trans hpm, rfl⟩)) ht2 hbe hab rfl, .inr ⟨hf.trans hpf.1, hmd.trans hpf.2⟩⟩
                · split
                  · exact h.more (by omega)
                  · split
                    · exact h.more (by omega)
                    · exact key _ rfl (by simp [impTok])

theorem Inv.step (h : Inv N st) (ht : TkSm t) : Inv (N + 1003) (stepM st t).1 := by
  unfold stepM
  repeat' split
  · exact h.initial ht ‹_›
  · exact h.befHtml ht ‹_›
  · exact h.befHead ht ‹_›
  · exact h.head ht (.inl ‹_›)
  · exact h.noscript ht ‹_›
  · exact h.aftHead ht ‹_›
  · exact h.txt ht ‹_›
  · exact h.more (by omega)

theorem Inv.does (ht : TkSm t) : ∀ (n : Nat) {N : Nat} {st : St}, Inv N st → Inv (N + n * 1003) (doesM n st t)
  | 0, N, st, h => h.more (by omega)
  | n + 1, N, st, h => by
    unfold doesM
    split
    · split
      · exact (Inv.does ht n (h.step ht)).more (by omega)
      · exact (h.step ht).more (by omega)
    · exact h.more (by omega)
end Go.Proofs.YtjmlkmlbhfkhbaaGreatDoor
