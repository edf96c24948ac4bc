/-
  The law's tags: start (89), end (91); State (171) of the raw elements; own (51).
  The builder's Push of a mode.
  State (171) of the raw elements of the head; equal strings.
  The heads' steps as functions of a state.
  heads.initial (253) and what a step leaves.
  heads.beforeHTML (254).
-/
import Derived.Test.YtjmlkmlbhfkhbaaGreatDoorHp15
import Derived.Test.YtjmlkmlbhfkhbaaGreatDoorHp13
import Derived.Test.YtjmlkmlbhfkhbaaGreatDoorHp11
set_option linter.unusedSimpArgs false
set_option linter.unusedVariables false
namespace Go.Proofs.YtjmlkmlbhfkhbaaGreatDoor
open Go Go.RowKit

def tagTok (k : Int) (name : Str) : Tok := { kind := k, name := name, text := ⟨#[]⟩, attrs := [], aA := none, acap := 0, dup := false, self := false, quirks := false, frm := 0, to_ := 0 }

set_option maxHeartbeats 1000000 in
theorem tStart (w : World) (name : Str) : Calls Tryz.prog 89 #[.string name] w fun e w' => e = .returned (tagTok 2 name).val ∧ Below w.heap.size w w' := by
  go_enter Tryz.func89, Tryz.ntmps89
  go_wp2_with fail
  refine bodyPost_ret (v := (tagTok 2 name).val) ?_ rfl ?_
  · have d := (HB.new w 24 (tagTok 2 name).cells).tok
    unfold Tok.cells tagTok at d
    obtain ⟨d0, d1, d2, d3, d4, d5, d6, d7, d8⟩ := d
    simp only [List.length_nil] at d3
    simp [results, Tryz.results89, go_sem, Tok.val, Tok.cells, tagTok, d0, d1, d2, d3, d4, d5, d6, d7, d8]
  · exact ⟨rfl, below_alloc (Below.refl _ _) _⟩

set_option maxHeartbeats 1000000 in
theorem tEnd (w : World) (name : Str) : Calls Tryz.prog 91 #[.string name] w fun e w' => e = .returned (tagTok 3 name).val ∧ Below w.heap.size w w' := by
  go_enter Tryz.func91, Tryz.ntmps91
  go_wp2_with fail
  refine bodyPost_ret (v := (tagTok 3 name).val) ?_ rfl ?_
  · have d := (HB.new w 24 (tagTok 3 name).cells).tok
    unfold Tok.cells tagTok at d
    obtain ⟨d0, d1, d2, d3, d4, d5, d6, d7, d8⟩ := d
    simp only [List.length_nil] at d3
    simp [results, Tryz.results91, go_sem, Tok.val, Tok.cells, tagTok, d0, d1, d2, d3, d4, d5, d6, d7, d8]
  · exact ⟨rfl, below_alloc (Below.refl _ _) _⟩

set_option maxHeartbeats 400000 in
theorem lOwn (w : World) (m : Int) : Calls Tryz.prog 51 #[.int .i64 m] w fun e w' => e = .returned (.bool ((decide (0 ≤ m) && decide (m ≤ 5)) || decide (m = 7))) ∧ w = w' := by
  by_cases h0 : 0 ≤ m
  · by_cases h5 : m ≤ 5
    · go_enter Tryz.func51, Tryz.ntmps51
      go_wp2_with fail
      go_ret
      exact ⟨ret_bool (by simp [h0, h5]), rfl⟩
    · by_cases h7 : m = 7
      · subst h7
        go_enter Tryz.func51, Tryz.ntmps51
        go_wp2_with fail
        go_ret
        exact ⟨ret_bool (by decide), rfl⟩
      · have h7' : (m == 7) = false := by simp [h7]
        go_enter Tryz.func51, Tryz.ntmps51
        go_wp2_with fail
        go_ret
        exact ⟨ret_bool (by simp [h5, h7]), rfl⟩
  · have h7 : m ≠ 7 := by omega
    have h7' : (m == 7) = false := by simp [h7]
    go_enter Tryz.func51, Tryz.ntmps51
    go_wp2_with fail
    go_ret
    exact ⟨ret_bool (by simp [h7]; omega), rfl⟩
end Go.Proofs.YtjmlkmlbhfkhbaaGreatDoor
namespace Go.Proofs.YtjmlkmlbhfkhbaaGreatDoor
open Go Go.RowKit

set_option maxRecDepth 100000 in
set_option maxHeartbeats 2000000 in
theorem bModePush {w : World} {c : Col} {h : Hd} {st : St} (H : BRep w c h st) (hl : st.modes.length ≤ 1000000) (m : Int) :
    Calls Tryz.prog 10 #[.pointer (some ⟨h.b, 0, none⟩), .int .i64 m] w (OkB h { st with modes := st.modes ++ [m] } (.tuple #[]) w c) := by
  have N1 := Lib.hid (bNone H)
  obtain ⟨X, H⟩ := H
  obtain ⟨-, -, -, -, -, b5, -⟩ := H.bc
  have hlb := H.hb.lt
  obtain ⟨t0, ht0, hz0, hz1, hz2⟩ := info_parts info3
  go_enter Tryz.func10, Tryz.ntmps10
  go_wp2_with (first
    | (go_at_call 63; refine N1.out.mono ?_; rintro e w1 ⟨rfl, rfl⟩)
    | (at_builtin; refine wpList_append_row _ c (h.sd, 10, 0) rfl _ _ 31 rfl 3 t0 _ 1 8 Tryz.underlying31 ht0 hz0 hz1 hz2 rfl (by decide) _ st.modes.length X.mcap (intCells st.modes) rfl (by exact H.modes.kp (kp_below (below_alloc (Below.refl _ _) _))) _ 1 1 [.int .i64 m] rfl (by rfl) (by simp) (by exact news_new _ _ _) (by simp [Value.oneCell']) (by unfold maxLen; omega) (by omega) ?_; intro A2 cp2 w2 c2 hrow2 hmv2; have hm0 : Mv (· = (h.sd, 10, 0)) w c w2 c2 := Mv.trans (Mv.of_below (below_alloc (Below.refl _ _) _)) hmv2; have hb2 := H.hb.kp (hm0.kp (k := (h.sd, 1, 0)) (by simp)); have m1 : w2.cell? ⟨h.b, 5, none⟩ = some (.slice X.mA st.modes.length X.mcap) := hb2.cell 5; have m2 := hb2.frozen 5; have m3 := hb2.lt; clear b5))
  have hrow3 : RowOk w2 c2 (h.sd, 10, 0) 3 1 A2 (st.modes ++ [m]).length cp2 (intCells (st.modes ++ [m])) := by simpa [intCells] using hrow2
  have SS := setModes H hrow3 hm0
  rw [show (st.modes ++ [m]).length = st.modes.length + 1 by simp] at SS
  have SSH := Lib.hid SS
  go_end0
  exact ⟨rfl, c2, ⟨_, SSH.out.1⟩, SSH.out.2⟩
end Go.Proofs.YtjmlkmlbhfkhbaaGreatDoor
namespace Go.Proofs.YtjmlkmlbhfkhbaaGreatDoor
open Go Go.RowKit

theorem eqS_eq {s t : Str} (h : eqS s t = true) : s = t := by
  unfold eqS at h
  rw [ByteArray.toList_eq, ByteArray.toList_eq] at h
  have h1 : s.data.toList = t.data.toList := by simpa using h
  obtain ⟨⟨a⟩⟩ := s
  obtain ⟨⟨b⟩⟩ := t
  simp at h1
  rw [h1]

set_option maxHeartbeats 400000 in
theorem kTitle (w : World) : Calls Tryz.prog 171 #[.string nTitle] w fun e w' => e = .returned (.int .i64 1) ∧ w = w' := by
  go_enter Tryz.func171, Tryz.ntmps171
  go_wp2_with fail
  go_ret
  exact ⟨rfl, rfl⟩
set_option maxHeartbeats 400000 in
theorem kNoframes (w : World) : Calls Tryz.prog 171 #[.string nNoframes] w fun e w' => e = .returned (.int .i64 2) ∧ w = w' := by
  go_enter Tryz.func171, Tryz.ntmps171
  go_wp2_with fail
  go_ret
  exact ⟨rfl, rfl⟩
set_option maxHeartbeats 400000 in
theorem kStyle (w : World) : Calls Tryz.prog 171 #[.string nStyle] w fun e w' => e = .returned (.int .i64 2) ∧ w = w' := by
  go_enter Tryz.func171, Tryz.ntmps171
  go_wp2_with fail
  go_ret
  exact ⟨rfl, rfl⟩
set_option maxHeartbeats 400000 in
theorem kScript (w : World) : Calls Tryz.prog 171 #[.string nScript] w fun e w' => e = .returned (.int .i64 3) ∧ w = w' := by
  go_enter Tryz.func171, Tryz.ntmps171
  go_wp2_with fail
  go_ret
  exact ⟨rfl, rfl⟩
end Go.Proofs.YtjmlkmlbhfkhbaaGreatDoor
namespace Go.Proofs.YtjmlkmlbhfkhbaaGreatDoor
open Go Go.RowKit

abbrev mNoscript : Str := ⟨#[110, 111, 115, 99, 114, 105, 112, 116]⟩
abbrev mFrameset : Str := ⟨#[102, 114, 97, 109, 101, 115, 101, 116]⟩
abbrev mBr : Str := ⟨#[98, 114]⟩

/-- The node of a doctype. -/
def dtC (name : Str) : NdC := { nd := { kind := 2, name := name, text := ⟨#[]⟩, space := 0, attrs := [], dup := false, parent := 0, content := 0, kids := [], frm := -1, to_ := -1 }, aA := none, acap := 0, kA := none, kcap := 0 }

def initialM (st : St) (t : Tok) : St × Bool :=
  if t.kind = 5 then (st, false)
  else if t.kind = 4 then (cmM st t.text 0, false)
  else if t.kind = 1 then ({ st with ns := hangN (addN st.ns (dtC t.name).nd) 0 st.ns.length, quirks := t.quirks || !eqS t.name mHtml, mode := 1 }, false)
  else ({ st with quirks := true, mode := 1 }, true)

def befHtmlM (st : St) (t : Tok) : St × Bool :=
  if t.kind = 4 then (cmM st t.text 0, false)
  else if t.kind = 1 then (st, false)
  else if t.kind = 5 then (st, false)
  else if strangeB t then (st, false)
  else if startB t [mHtml] then ({ insM st t 0 with mode := 2 }, false)
  else ({ insM st (impTok mHtml) 0 with mode := 2 }, true)

/-- The builder's HTML. -/
def htmlM (st : St) (t : Tok) : St :=
  if 0 ≤ lastOf st.stk [nTemplate] then st
  else match st.ns[(atOf st.stk 0).toNat]? with
    | some n => moreM st (atOf st.stk 0).toNat n t.attrs
    | none => st

def befHeadM (st : St) (t : Tok) : St × Bool :=
  if t.kind = 4 then (cmM st t.text (plIx st.ns (tgtIx st)), false)
  else if t.kind = 1 then (st, false)
  else if t.kind = 5 then (st, false)
  else if strangeB t then (st, false)
  else if startB t [mHtml] then (htmlM st t, false)
  else if startB t [mHead] then ({ insM st t 0 with head := st.ns.length, mode := 3 }, false)
  else ({ insM st (impTok mHead) 0 with head := st.ns.length, mode := 3 }, true)

/-- A list up to its last marker. -/
def upTo : List Int → List Int
  | [] => []
  | l => l.take (l.length - 1 - (l.reverse.takeWhile (fun i => i != -1)).length)

/-- leave, where a template is open. -/
def leaveM (st : St) : St :=
  resetM { st with stk := st.stk.take (lastOf st.stk [nTemplate]).toNat, fmt := upTo st.fmt, modes := st.modes.dropLast }

def tmplM (st : St) (t : Tok) : St :=
  if t.kind = 2 then { insM st t 0 with fmt := st.fmt ++ [-1], mode := 15, modes := st.modes ++ [15] }
  else if 0 ≤ lastOf st.stk [nTemplate] then leaveM st else st

def ownM (st : St) (t : Tok) : St :=
  if eqS t.name nTemplate then tmplM st t
  else if eqS t.name nTitle then rawM st t 1
  else if eqS t.name nNoframes then rawM st t 2
  else if eqS t.name nStyle then rawM st t 2
  else if eqS t.name nScript then rawM st t 3
  else onlyM st t

def headM (st : St) (t : Tok) : St × Bool :=
  if t.kind = 1 then (st, false)
  else if t.kind = 5 then (chM st t.text, false)
  else if t.kind = 4 then (cmM st t.text (plIx st.ns (tgtIx st)), false)
  else if startB t [mHtml] then (htmlM st t, false)
  else if belB t then (ownM st t, false)
  else if startB t [mNoscript] then ({ insM st t 0 with mode := 4 }, false)
  else if startB t [mHead] then (st, false)
  else if strangeB t then (st, false)
  else ({ st with stk := st.stk.dropLast, mode := 5 }, !endB t [mHead])

abbrev nosNames : List Str := [mHtml, nBasefont, nBgsound, nLink, nMeta, nNoframes, nStyle]
def noscriptM (st : St) (t : Tok) : St × Bool :=
  if t.kind = 1 then (st, false)
  else if startB t [mHead, mNoscript] then (st, false)
  else if t.kind = 5 then headM st t
  else if t.kind = 4 then headM st t
  else if startB t nosNames then headM st t
  else if t.kind = 3 ∧ eqS t.name mNoscript = false ∧ eqS t.name mBr = false then (st, false)
  else ({ st with stk := st.stk.dropLast, mode := 3 }, !endB t [mNoscript])

/-- A node is laid on top. -/
def pushM (st : St) : St :=
  match st.ns[st.head.toNat]? with
  | some n => { st with stk := st.stk ++ [⟨(st.head.toNat : Int), n.space, n.name⟩] }
  | none => st
/-- The last place of a node. -/
def ixFrom (l : List OpE) (i : Int) : Nat → Int
  | 0 => -1
  | k + 1 => match l[k]? with
    | some o => if o.node = i then (k : Int) else ixFrom l i k
    | none => ixFrom l i k
def remM (st : St) : St :=
  if ixFrom st.stk st.head st.stk.length < 0 then st else { st with stk := st.stk.eraseIdx (ixFrom st.stk st.head st.stk.length).toNat }

def aftHeadM (st : St) (t : Tok) : St × Bool :=
  if t.kind = 5 then (chM st t.text, false)
  else if t.kind = 4 then (cmM st t.text (plIx st.ns (tgtIx st)), false)
  else if t.kind = 1 then (st, false)
  else if startB t [mHead, mFrameset] then (st, false)
  else if startB t [mHtml] then (htmlM st t, false)
  else if startB t [mBody] then ({ insM st t 0 with mode := 6 }, false)
  else if endB t [nTemplate] then headM st t
  else if belB t then (remM (ownM (pushM st) t), false)
  else if strangeB t then (st, false)
  else if endB t [mHead] then (st, false)
  else ({ insM st (impTok mBody) 0 with mode := 6 }, true)

def txtM (st : St) (t : Tok) : St × Bool :=
  if t.kind = 5 ∨ t.kind = 6 ∨ t.kind = 7 then (chM st t.text, false)
  else ({ st with stk := st.stk.dropLast, mode := st.back }, decide (t.kind = 8))

def stepM (st : St) (t : Tok) : St × Bool :=
  if st.mode = 0 then initialM st t
  else if st.mode = 1 then befHtmlM st t
  else if st.mode = 2 then befHeadM st t
  else if st.mode = 3 then headM st t
  else if st.mode = 4 then noscriptM st t
  else if st.mode = 5 then aftHeadM st t
  else if st.mode = 7 then txtM st t
  else (st, false)

def ownB (m : Int) : Bool := (decide (0 ≤ m) && decide (m ≤ 5)) || decide (m = 7)
def doesM : Nat → St → Tok → St
  | 0, st, _ => st
  | n + 1, st, t => if ownB st.mode then (if (stepM st t).2 then doesM n (stepM st t).1 t else (stepM st t).1) else st
end Go.Proofs.YtjmlkmlbhfkhbaaGreatDoor
namespace Go.Proofs.YtjmlkmlbhfkhbaaGreatDoor
open Go Go.RowKit

/-- A step's end: the state, and whether the token is to be done once more. -/
def StepB (h : Hd) (M : St × Bool) (w : World) (c : Col) (e : Ending) (w' : World) : Prop := OkB h M.1 (.bool M.2) w c e w'
/-- A token that the law lets by. -/
structure TkOk (w : World) (c : Col) (t : Tok) : Prop where
  name : t.name.size ≤ 300
  text : t.text.size ≤ 300
  attrs : t.attrs.length ≤ 10
  at_ : AttrsAt w c t.aA t.attrs
theorem TkOk.loc {w w' : World} {c : Col} {t : Tok} (h : TkOk w c t) (hb : Below w.heap.size w w') : TkOk w' c t := ⟨h.name, h.text, h.attrs, h.at_.loc hb⟩
theorem eqS_lit (s : Str) (l : List UInt8) : eqS s (ByteArray.mk l.toArray) = (s.toList == l) := by unfold eqS; rw [toList_mk l]
theorem Wf.mode' {N : Nat} {st : St} (h : Wf N st) (m : Int) (q : Bool) : Wf N { st with mode := m, quirks := q } := ⟨h.sz, h.op, h.up, h.doc, h.cont, h.kid, h.nf⟩

set_option maxRecDepth 100000 in
set_option maxHeartbeats 4000000 in
theorem hInitial {w : World} {c : Col} {h : Hd} {st : St} (H : BRep w c h st) {N : Nat} (wf : Wf N st) (hN : N ≤ 9000000) (hs : st.stk.length ≤ 100) (t : Tok) (ht : TkOk w c t) :
    Calls Tryz.prog 253 #[.pointer (some ⟨h.b, 0, none⟩), t.val] w (StepB h (initialM st t) w c) := by
  have hb0 : Below w.heap.size w (w.alloc (.cells t.cells.toArray 24)) := below_alloc (Below.refl _ _) _
  have hl : 0 < st.ns.length := by have := wf.sz.2.1; omega
  by_cases k5 : t.kind = 5
  · obtain ⟨b0, -⟩ := (HB.new w 24 t.cells).tok
    have FIN : Hid (initialM st t = (st, false) ∧ BRep (w.alloc (.cells t.cells.toArray 24)) c h st ∧ Mv (Pr h) w c (w.alloc (.cells t.cells.toArray 24)) c) := Lib.hid ⟨by unfold initialM; rw [if_pos k5], H.loc hb0, Mv.of_below hb0⟩
    rw [k5] at b0
    clear H wf ht hs
    unfold StepB
    rw [FIN.out.1]
    unfold Tok.val
    unfold Tok.cells at *
    rw [k5] at *
    go_enter Tryz.func253, Tryz.ntmps253
    go_wp2_with fail
    go_ret
    exact ⟨rfl, c, FIN.out.2.1, FIN.out.2.2⟩
  · have k5' : (t.kind == 5) = false := by simp [k5]
    by_cases k4 : t.kind = 4
    · have EQ : Hid (initialM st t = (cmM st t.text 0, false)) := Lib.hid (by unfold initialM; rw [if_neg k5, if_pos k4])
      unfold StepB
      rw [EQ.out]
      clear EQ
      obtain ⟨kind, name, text, attrs, aA, acap, dup, self, quirks, frm, to_⟩ := t
      obtain rfl : kind = 4 := k4
      have TX := (HB.new w 24 (⟨4, name, text, attrs, aA, acap, dup, self, quirks, frm, to_⟩ : Tok).cells).tok
      have CM := Lib.hid (bComment (H.loc hb0) wf (by omega) (by omega) ⟨4, name, text, attrs, aA, acap, dup, self, quirks, frm, to_⟩ (by have := ht.text; simp only at this ⊢; omega) 0 0 (.inl ⟨rfl, rfl⟩))
      clear H wf ht hs k5 k5'
      obtain ⟨b0, b1, b2, b3, b4, b5, b6, b7, b8⟩ := TX
      unfold Tok.val at *
      unfold Tok.cells at *
      go_enter Tryz.func253, Tryz.ntmps253
      go_wp2_with fail
      refine CM.out.mono ?_
      intro e w2 ho
      obtain ⟨rfl, c2, H2, m2⟩ := ho.after hb0
      go_wp2_with fail
      go_ret
      exact ⟨rfl, c2, H2, m2⟩
    · have k4' : (t.kind == 4) = false := by simp [k4]
      by_cases k1 : t.kind = 1
      · have EQ : Hid (initialM st t = ({ st with ns := hangN (addN st.ns (dtC t.name).nd) 0 st.ns.length, quirks := t.quirks || !eqS t.name mHtml, mode := 1 }, false)) := Lib.hid (by unfold initialM; rw [if_neg k5, if_neg k4, if_pos k1])
        unfold StepB
        rw [EQ.out]
        clear EQ
        have AR := Lib.hid (bArena (H.loc hb0))
        have AD := Lib.hid (aAdd (H.loc hb0) (dtC t.name) (.inl rfl) (by have := wf.sz.1; omega) (by simp [dtC]) ⟨fun _ => rfl, fun _ e => by cases e⟩ wf.sz.2.1)
        have W1 : Wf (N + 1002) { st with ns := addN st.ns (dtC t.name).nd } := wf.add (by omega) (by simp [dtC]) (Nat.zero_le _)
        obtain ⟨k, n1⟩ := addN_new st.ns (dtC t.name).nd
        obtain ⟨nd0, hnd0⟩ : ∃ nd0, st.ns[0]? = some nd0 := ⟨_, List.getElem?_eq_getElem hl⟩
        have p1' : (addN st.ns (dtC t.name).nd)[0]? = some nd0 := by rw [addN_old hl]; exact hnd0
        have AP := Lib.hid (fun (W : World) (c2 : Col) (H2 : BRep W c2 h { st with ns := addN st.ns (dtC t.name).nd }) => aAppend H2 p1' n1 rfl hl (show (addN st.ns (dtC t.name).nd).length ≤ 1000000000 by have : (addN st.ns (dtC t.name).nd).length ≤ N + 1002 := W1.sz.1; omega) (by have := (W1.sz.2.2 0 nd0 p1').2.1; omega) (.inl (wf.doc nd0 hnd0)) (.inl rfl) W1.up)
        have BOX : Hid (∀ W C, Mv (Pr h) (w.alloc (.cells t.cells.toArray 24)) c W C → HB W w.heap.size 24 t.cells) := Lib.hid fun W C hm => (HB.new w 24 t.cells).mvk hm (fun e => H.sd (by unfold Pr at e; rw [← e, H.gd _ (Nat.le_refl _)]))
        obtain ⟨b0, b1, b2, b3, b4, b5, b6, b7, b8⟩ := (HB.new w 24 t.cells).tok
        clear H wf ht hs k5 k4 W1 n1 hnd0 p1' hl
        rw [k1] at b0
        unfold Tok.val
        go_enter Tryz.func253, Tryz.ntmps253
        go_wp2_with (go_at_call 30; refine AR.out.mono ?_; rintro e w2 ⟨rfl, rfl⟩)
        refine AD.out.mono ?_
        intro e w2 ho
        obtain ⟨rfl, c2, H2, m2⟩ := ho
        obtain ⟨d0, d1, d2, d3, d4, d5, d6, d7, d8⟩ := (BOX.out _ _ m2).tok
        go_wp2_with fail
        refine (AP.out _ _ H2).mono ?_
        rintro e w3 ⟨rfl, c3, H3, m3⟩
        obtain ⟨g0, g1, g2, g3, g4, g5, g6, g7, g8⟩ := (BOX.out _ _ (m2.trans m3)).tok
        have fin : ∀ q : Bool, ∀ (e : Ending) (w4 : World), OkB h { st with ns := hangN (addN st.ns (dtC t.name).nd) 0 st.ns.length, quirks := q } (.tuple #[]) w3 c3 e w4 → e = .returned (.tuple #[]) ∧ Calls Tryz.prog 8 #[.pointer (some ⟨h.b, 0, none⟩), .int .i64 1] w4 fun e w5 => e = .returned (.tuple #[]) ∧ OkB h { st with ns := hangN (addN st.ns (dtC t.name).nd) 0 st.ns.length, quirks := q, mode := 1 } (.bool false) w c (.returned (.bool false)) w5 := by
          rintro q e w4 ⟨rfl, c4, H4, m4⟩
          refine ⟨rfl, (bSet H4 1).mono ?_⟩
          rintro e w5 ⟨rfl, c5, H5, m5⟩
          exact ⟨rfl, rfl, c5, H5, (Mv.of_below hb0).trans (m2.trans (m3.trans (m4.trans m5)))⟩
        have SQ := Lib.hid (fun q => bSetQuirks H3 q)
        have FIN := Lib.hid fin
        clear fin H3 d0 d1 d2 d3 d4 d5 d6 d7 d8
        cases hq : t.quirks
        · rw [hq] at g6
          cases hn : (t.name.toList == [104, 116, 109, 108])
          · have ev : Hid (eqS t.name mHtml = false) := Lib.hid ((eqS_lit _ _).trans hn)
            go_wp2_with fail
            refine (SQ.out _).mono ?_
            intro e w4 ho
            obtain ⟨rfl, C8⟩ := FIN.out _ _ _ ho
            go_wp2_with fail
            refine C8.mono ?_
            rintro e w5 ⟨rfl, F⟩
            go_wp2_with fail
            go_ret
            rw [ev.out, hq]
            exact F
          · have ev : Hid (eqS t.name mHtml = true) := Lib.hid ((eqS_lit _ _).trans hn)
            go_wp2_with fail
            refine (SQ.out _).mono ?_
            intro e w4 ho
            obtain ⟨rfl, C8⟩ := FIN.out _ _ _ ho
            go_wp2_with fail
            refine C8.mono ?_
            rintro e w5 ⟨rfl, F⟩
            go_wp2_with fail
            go_ret
            rw [ev.out, hq]
            exact F
        · rw [hq] at g6
          go_wp2_with fail
          refine (SQ.out _).mono ?_
          intro e w4 ho
          obtain ⟨rfl, C8⟩ := FIN.out _ _ _ ho
          go_wp2_with fail
          refine C8.mono ?_
          rintro e w5 ⟨rfl, F⟩
          go_wp2_with fail
          go_ret
          rw [hq]
          exact F
      · have k1' : (t.kind == 1) = false := by simp [k1]
        have EQ : Hid (initialM st t = ({ st with quirks := true, mode := 1 }, true)) := Lib.hid (by unfold initialM; rw [if_neg k5, if_neg k4, if_neg k1])
        unfold StepB
        rw [EQ.out]
        clear EQ
        obtain ⟨b0, b1, b2, b3, b4, b5, b6, b7, b8⟩ := (HB.new w 24 t.cells).tok
        have SQ := Lib.hid (bSetQuirks (H.loc hb0) true)
        clear H wf ht hs k5 k4 k1
        unfold Tok.val
        unfold Tok.cells at *
        go_enter Tryz.func253, Tryz.ntmps253
        go_wp2_with fail
        refine SQ.out.mono ?_
        intro e w2 ho
        obtain ⟨rfl, c2, H2, m2⟩ := ho.after hb0
        go_wp2_with fail
        refine (bSet H2 1).mono ?_
        rintro e w3 ⟨rfl, c3, H3, m3⟩
        go_wp2_with fail
        go_ret
        exact ⟨rfl, c3, H3, m2.trans m3⟩
end Go.Proofs.YtjmlkmlbhfkhbaaGreatDoor
namespace Go.Proofs.YtjmlkmlbhfkhbaaGreatDoor
open Go Go.RowKit

theorem StepB.mk {h : Hd} {M : St × Bool} {s : St} {r : Bool} {w : World} {c : Col} {e : Ending} {w' : World} (E : M = (s, r)) (H : OkB h s (.bool r) w c e w') : StepB h M w c e w' := by
  subst E; exact H
theorem OkB.of_below {h : Hd} {st : St} {v : Value} {w : World} {c : Col} (H : BRep w c h st) {w' : World} (hb : Below w.heap.size w w') : OkB h st v w c (.returned v) w' := ⟨rfl, c, H.loc hb, Mv.of_below hb⟩

/-- What can be done with a builder in any world that only grew. -/
structure Ops (h : Hd) (st : St) (t : Tok) (w : World) (c : Col) (W : World) : Prop where
  rep : BRep W c h st
  ins : Calls Tryz.prog 45 #[.pointer (some ⟨h.b, 0, none⟩), t.val, .int .i64 0] W (OkB h (insM st t 0) (.int .i64 st.ns.length) w c)
  imp : ∀ name, Calls Tryz.prog 47 #[.pointer (some ⟨h.b, 0, none⟩), .string name] W (OkB h (insM st (impTok name) 0) (.int .i64 st.ns.length) w c)
  com : Calls Tryz.prog 21 #[.pointer (some ⟨h.b, 0, none⟩), t.val, .int .i64 0] W (OkB h (cmM st t.text 0) (.tuple #[]) w c)
  com1 : Calls Tryz.prog 21 #[.pointer (some ⟨h.b, 0, none⟩), t.val, .int .i64 (-1)] W (OkB h (cmM st t.text (plIx st.ns (tgtIx st))) (.tuple #[]) w c)
  chars : Calls Tryz.prog 20 #[.pointer (some ⟨h.b, 0, none⟩), .string t.text] W (OkB h (chM st t.text) (.tuple #[]) w c)
  ok : ∀ {s : St} {v : Value} {r : Bool} {M : St × Bool}, M = (st, r) → StepB h M w c (.returned (.bool r)) W

theorem ops_of {w : World} {c : Col} {h : Hd} {st : St} (H : BRep w c h st) {N : Nat} (wf : Wf N st) (hN : N ≤ 9000000) (hs : st.stk.length ≤ 100) (t : Tok) (ht : TkOk w c t) {W : World} (hb : Below w.heap.size w W) : Ops h st t w c W := by
  have H' := H.loc hb
  refine ⟨H', ?_, fun name => ?_, ?_, ?_, ?_, fun e => StepB.mk e (OkB.of_below H hb)⟩
  · exact (bInsert H' wf (by omega) (by omega) t 0 (ht.at_.loc hb).src (by have := ht.attrs; omega)).mono fun e w2 ho => ho.after hb
  · exact (bImply H' wf (by omega) (by omega) name).mono fun e w2 ho => ho.after hb
  · exact (bComment H' wf (by omega) (by omega) t (by have := ht.text; omega) 0 0 (.inl ⟨rfl, rfl⟩)).mono fun e w2 ho => ho.after hb
  · exact (bComment H' wf (by omega) (by omega) t (by have := ht.text; omega) (-1) _ (.inr ⟨rfl, rfl⟩)).mono fun e w2 ho => ho.after hb
  · exact (bChars H' wf (by omega) (by omega) t.text (by have := ht.text; omega)).mono fun e w2 ho => ho.after hb

set_option maxRecDepth 100000 in
set_option maxHeartbeats 4000000 in
theorem hBefHtml {w : World} {c : Col} {h : Hd} {st : St} (H : BRep w c h st) {N : Nat} (wf : Wf N st) (hN : N ≤ 9000000) (hs : st.stk.length ≤ 100) (t : Tok) (ht : TkOk w c t) :
    Calls Tryz.prog 254 #[.pointer (some ⟨h.b, 0, none⟩), t.val] w (StepB h (befHtmlM st t) w c) := by
  have O := Lib.hid (fun (W : World) (hb : Below w.heap.size w W) => ops_of H wf hN hs t ht hb)
  have hb0 : Below w.heap.size w (w.alloc (.cells t.cells.toArray 24)) := below_alloc (Below.refl _ _) _
  have B0 := HB.new w 24 t.cells
  obtain ⟨b0, b1, b2, b3, b4, b5, b6, b7, b8⟩ := B0.tok
  clear H wf ht hs
  by_cases k4 : t.kind = 4
  · have EQ : Hid (befHtmlM st t = (cmM st t.text 0, false)) := Lib.hid (by unfold befHtmlM; rw [if_pos k4])
    have k4' : (t.kind == 4) = true := by simp [k4]
    clear k4
    unfold Tok.val Tok.cells
    go_enter Tryz.func254, Tryz.ntmps254
    go_wp2_with fail
    refine (O.out _ hb0).com.mono ?_
    rintro e w2 ⟨rfl, c2, H2, m2⟩
    go_wp2_with fail
    go_ret
    exact StepB.mk EQ.out ⟨rfl, c2, H2, m2⟩
  · have k4' : (t.kind == 4) = false := by simp [k4]
    by_cases k1 : t.kind = 1
    · have EQ : Hid (befHtmlM st t = (st, false)) := Lib.hid (by unfold befHtmlM; rw [if_neg k4, if_pos k1])
      have k1' : (t.kind == 1) = true := by simp [k1]
      clear k4 k1
      unfold Tok.val Tok.cells
      go_enter Tryz.func254, Tryz.ntmps254
      go_wp2_with fail
      go_ret
      exact StepB.mk EQ.out ⟨rfl, c, (O.out _ hb0).rep, Mv.of_below hb0⟩
    · have k1' : (t.kind == 1) = false := by simp [k1]
      by_cases k5 : t.kind = 5
      · have EQ : Hid (befHtmlM st t = (st, false)) := Lib.hid (by unfold befHtmlM; rw [if_neg k4, if_neg k1, if_pos k5])
        have k5' : (t.kind == 5) = true := by simp [k5]
        clear k4 k1 k5
        unfold Tok.val Tok.cells
        go_enter Tryz.func254, Tryz.ntmps254
        go_wp2_with fail
        go_ret
        exact StepB.mk EQ.out ⟨rfl, c, (O.out _ hb0).rep, Mv.of_below hb0⟩
      · have k5' : (t.kind == 5) = false := by simp [k5]
        have EQ : Hid (befHtmlM st t = if strangeB t then (st, false) else if startB t [mHtml] then ({ insM st t 0 with mode := 2 }, false) else ({ insM st (impTok mHtml) 0 with mode := 2 }, true)) := Lib.hid (by unfold befHtmlM; rw [if_neg k4, if_neg k1, if_neg k5])
        clear k4 k1 k5
        unfold Tok.val Tok.cells
        go_enter Tryz.func254, Tryz.ntmps254
        go_wp2_with fail
        refine Calls.mono (hStrange _ t) ?_
        rintro e w1 ⟨rfl, hb1⟩
        have hB1 := below_step hb0 hb1
        have B1 := B0.below hb1
        obtain ⟨d0, d1, d2, d3, d4, d5, d6, d7, d8⟩ := B1.tok
        cases hS : strangeB t
        · rw [hS, if_neg (by simp)] at EQ
          clear hS
          go_wp2_with fail
          refine Calls.mono (hStart _ t _ 1 [mHtml] (by decide) (by exact Strs.mk_ _ (by simp))) ?_
          rintro e w2 ⟨rfl, hb2⟩
          have hB2 := below_step (below_alloc hB1 _) hb2
          obtain ⟨g0, g1, g2, g3, g4, g5, g6, g7, g8⟩ := ((B1.alloc _).below hb2).tok
          cases hH : startB t [mHtml]
          · rw [hH, if_neg (by simp)] at EQ
            clear hH
            go_wp2_with fail
            refine ((O.out _ hB2).imp _).mono ?_
            rintro e w3 ⟨rfl, c3, H3, m3⟩
            go_wp2_with fail
            refine (bSet H3 2).mono ?_
            rintro e w4 ⟨rfl, c4, H4, m4⟩
            go_wp2_with fail
            go_ret
            exact StepB.mk EQ.out ⟨rfl, c4, H4, m3.trans m4⟩
          · rw [hH, if_pos rfl] at EQ
            clear hH
            go_wp2_with fail
            refine (O.out _ hB2).ins.mono ?_
            rintro e w3 ⟨rfl, c3, H3, m3⟩
            go_wp2_with fail
            refine (bSet H3 2).mono ?_
            rintro e w4 ⟨rfl, c4, H4, m4⟩
            go_wp2_with fail
            go_ret
            exact StepB.mk EQ.out ⟨rfl, c4, H4, m3.trans m4⟩
        · rw [hS, if_pos rfl] at EQ
          clear hS
          go_wp2_with fail
          go_ret
          exact StepB.mk EQ.out ⟨rfl, c, (O.out _ hB1).rep, Mv.of_below hB1⟩
end Go.Proofs.YtjmlkmlbhfkhbaaGreatDoor
