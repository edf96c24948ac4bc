/-
  The table of the heads' steps.
  heads.Step (55).
  The law's great (48): tokens that are few and small.
-/
import Derived.Test.YtjmlkmlbhfkhbaaGreatDoorHp13
import Derived.Test.YtjmlkmlbhfkhbaaGreatDoorHp16
import Derived.Maps.Keyed
import Derived.Test.YtjmlkmlbhfkhbaaGreatDoorHp18
import Derived.Test.YtjmlkmlbhfkhbaaGreatDoorHp21
import Derived.BigQuiet
import Derived.Test.YtjmlkmlbhfkhbaaGreatDoorHp15
set_option linter.unusedSimpArgs false
set_option linter.unusedVariables false
namespace Go.Proofs.YtjmlkmlbhfkhbaaGreatDoor
open Go Go.RowKit Go.ChangeShapes Go.WideShapes ChangeAt Go.WideMaps Go.WideElems

theorem gSteps : Tryz.prog.globalNamed "lazaret/heads.steps" = some 0 := by kernel_rfl
theorem tSteps : (Tryz.prog.globals[0]?).map (·.type) = some 109 := by kernel_rfl

def stepF (m : Int) : FuncId := if m = 0 then 253 else if m = 1 then 254 else if m = 2 then 255 else if m = 3 then 90 else if m = 4 then 256 else if m = 5 then 257 else 258
structure StepsAt (w : World) (mb : Nat) (es : Array MapEntry) (clock : Nat) : Prop where
  cell : w.cell? ⟨0, 0, none⟩ = some (.map (some mb))
  blk : w.heap[mb]? = some (.map es clock)
  look : ∀ (w' : World) (m : Int), w'.heap[mb]? = some (.map es clock) → ownB m = true → (Instr.lookup 109 (.map (some mb)) (.int .i64 m) false).run Tryz.prog w' = .ok (.func (.func (stepF m)) #[] #[]) w'
def StepsOk (w : World) (c : Col) : Prop := ∃ mb es clock, (c 0).1 = 0 ∧ (c mb).1 = 0 ∧ StepsAt w mb es clock
theorem StepsOk.mv {S : Key → Prop} {w w' : World} {c c' : Col} (H : StepsOk w c) (hm : Mv S w c w' c') (hS : ∀ k, S k → k.1 ≠ 0) : StepsOk w' c' := by
  obtain ⟨mb, es, clock, h1, h2, h3⟩ := H
  have l1 : 0 < w.heap.size := block_lt_of_cell h3.cell
  have l2 : mb < w.heap.size := (Array.getElem?_eq_some_iff.1 h3.blk).1
  refine ⟨mb, es, clock, by rw [hm.ext _ l1]; exact h1, by rw [hm.ext _ l2]; exact h2, ?_, ?_, h3.look⟩
  · rw [World.cell?_of_block (w := w) (hm.blk _ l1 (fun hs => hS _ hs h1))]; exact h3.cell
  · rw [hm.blk _ l2 (fun hs => hS _ hs h2)]; exact h3.blk

theorem ownB_cases {m : Int} (h : ownB m = true) : m = 0 ∨ m = 1 ∨ m = 2 ∨ m = 3 ∨ m = 4 ∨ m = 5 ∨ m = 7 := by
  unfold ownB at h
  simp at h
  omega

theorem func_elem {W : World} {n : Nat} {v : Value} {y : DataW (List UInt8) × List MemPlace} {b : UInt8} {r : List UInt8} {f0 : FuncId}
    (hone : ((List.range Tryz.prog.funcs.size).filter fun f => (Tryz.prog.funcs[f]?).any (·.name.toUTF8.data.toList == b :: r)) = [f0])
    (h : elemAt (funcToken Tryz.prog) Tryz.prog W 0 (fun _ => true) true n 80 v = some y) (hy : y.1 = .held (b :: r)) : v = .func (.func f0) #[] #[] := by
  unfold elemAt at h
  split at h
  · rename_i hf
    have hc : v.cells.toList = [v] := by
      cases v <;> first | rfl | (simp [Value.formed, Tryz.underlying80] at hf)
    rw [hc] at h
    obtain ⟨y1, y2⟩ := y
    obtain rfl : y1 = .held (b :: r) := hy
    exact func_of_trod Tryz.underlying80 hone h
  · cases h

set_option maxRecDepth 100000 in
theorem steps_of_laid {W : World} {l : List (String × DataW Unit)} (h : laidMetH Tryz.prog l W) (hm : ("lazaret/heads.steps", Rows.laid_lazaret_heads_steps) ∈ l) : ∃ mb es clock, StepsAt W mb es clock := by
  obtain ⟨g, t, cs, fuel, p, hg, ht, hv, hd⟩ := h.funcs hm
  obtain rfl := Option.some.inj (gSteps.symm.trans hg)
  obtain rfl := Option.some.inj (tSteps.symm.trans ht)
  rcases open_map Tryz.underlying109 hd with ⟨_, hx⟩ | ⟨bm, es, clock, m, rfl, hcs, hb, _, F, hx⟩
  · simp [DataW.funcsOut] at hx
  simp only [Prod.mk.injEq] at hx
  refine ⟨bm, es, clock, ?_, hb, ?_⟩
  · have := World.var?_cell hg hv 0
    rw [Array.eq_one_of_toList hcs] at this
    simpa using this
  · intro w' k hb' hk
    have fin : ∀ (k : Int) (b : UInt8) (r : List UInt8) (f0 : FuncId), (Lit.int .i64 k).wf = true → ((List.range Tryz.prog.funcs.size).filter fun f => (Tryz.prog.funcs[f]?).any (·.name.toUTF8.data.toList == b :: r)) = [f0] →
        (∀ zd : DataW (List UInt8), (DataW.map (List.foldr DataW.insert [] (List.map (rg Tryz.prog 3 (elemAt (funcToken Tryz.prog) Tryz.prog W 0 (fun _ => true) true m 80)) es.toList))).atKey (.int .i64 k) zd = .held (b :: r)) →
        (Instr.lookup 109 (.map (some bm)) (.int .i64 k) false).run Tryz.prog w' = .ok (.func (.func f0) #[] #[]) w' := by
      intro k b r f0 hwf hone hat0
      rcases Go.Maps.fit_look false (Go.Maps.int_keyed Tryz.underlying3) Tryz.underlying109 (Tryz.zeroValue80 w') hb' F (Go.Maps.keyOf_int_mk Tryz.underlying3 hwf) with ⟨-, -, hat⟩ | ⟨e0, y, -, -, hrun, hR, hat, -⟩
      · have h1 := hat .nil
        rw [hat0] at h1
        cases h1
      · have h1 := hat .nil
        rw [hat0] at h1
        have := func_elem hone hR h1.symm
        rw [this] at hrun
        simpa using hrun
    rw [← hx.1] at fin
    rcases ownB_cases hk with rfl | rfl | rfl | rfl | rfl | rfl | rfl
    · exact fin 0 _ _ 253 (by decide) (by kernel_rfl) (fun zd => rfl)
    · exact fin 1 _ _ 254 (by decide) (by kernel_rfl) (fun zd => rfl)
    · exact fin 2 _ _ 255 (by decide) (by kernel_rfl) (fun zd => rfl)
    · exact fin 3 _ _ 90 (by decide) (by kernel_rfl) (fun zd => rfl)
    · exact fin 4 _ _ 256 (by decide) (by kernel_rfl) (fun zd => rfl)
    · exact fin 5 _ _ 257 (by decide) (by kernel_rfl) (fun zd => rfl)
    · exact fin 7 _ _ 258 (by decide) (by kernel_rfl) (fun zd => rfl)
end Go.Proofs.YtjmlkmlbhfkhbaaGreatDoor
namespace Go.Proofs.YtjmlkmlbhfkhbaaGreatDoor
open Go Go.RowKit

theorem TkOk.sm {w : World} {c : Col} {t : Tok} (h : TkOk w c t) : TkSm t := ⟨h.name, h.text, h.attrs⟩

theorem ixFrom_mem {l : List OpE} {i : Int} (h : ∃ o ∈ l, o.node = i) : ∃ k : Nat, ixFrom l i l.length = (k : Int) := by
  obtain ⟨o, ho, rfl⟩ := h
  obtain ⟨j, hj, e⟩ := List.getElem_of_mem ho
  have key : ∀ m, j < m → 0 ≤ ixFrom l o.node m := by
    intro m
    induction m with
    | zero => intro h; omega
    | succ m ih =>
      intro hm
      unfold ixFrom
      by_cases h : j = m
      · subst h
        rw [List.getElem?_eq_getElem hj, e]
        simp
      · have := ih (by omega)
        split
        · split
          · omega
          · exact this
        · exact this
  have := key l.length hj
  exact ⟨(ixFrom l o.node l.length).toNat, by omega⟩

/-- The stack and the head behind own. -/
theorem own_facts {s : St} (t : Tok) (hno : lastOf s.stk [nTemplate] < 0) : (ownM s t).head = s.head ∧ ((ownM s t).stk = s.stk ∨ ∃ r, (ownM s t).stk = s.stk ++ [r]) := by
  unfold ownM
  split
  · unfold tmplM
    split
    · exact ⟨rfl, .inr ⟨_, rfl⟩⟩
    · rw [if_neg (by omega)]; exact ⟨rfl, .inl rfl⟩
  · repeat' split
    all_goals first | exact ⟨rfl, .inr ⟨_, rfl⟩⟩ | exact ⟨rfl, .inl rfl⟩

/-- What the step of a mode does. -/
theorem hDo {w : World} {c : Col} {h : Hd} {st : St} (H : BRep w c h st) {N : Nat} (inv : Inv N st) (hN : N ≤ 9000000) (ho : ownB st.mode = true) (t : Tok) (ht : TkOk w c t) :
    Calls Tryz.prog (stepF st.mode) #[.pointer (some ⟨h.b, 0, none⟩), t.val] w (StepB h (stepM st t) w c) := by
  have hs := inv.shp.stk_le ho
  have hno := inv.shp.no_tmpl ho
  obtain ⟨hf, hm⟩ := inv.em.own ho
  have hs1 : st.stk.length ≤ 100 := by omega
  have hf1 : st.fmt.length < 64 := by rw [hf]; decide
  have hm1 : st.modes.length ≤ 1000000 := by rw [hm]; decide
  rcases ownB_cases ho with e | e | e | e | e | e | e
  · rw [show stepM st t = initialM st t by unfold stepM; rw [if_pos e], e]
    exact hInitial H inv.wf hN hs1 t ht
  · rw [show stepM st t = befHtmlM st t by unfold stepM; rw [if_neg (by omega), if_pos e], e]
    exact hBefHtml H inv.wf hN hs1 t ht
  · rw [show stepM st t = befHeadM st t by unfold stepM; rw [if_neg (by omega), if_neg (by omega), if_pos e], e]
    have h0 : 0 < st.stk.length := by
      cases inv.shp with
      | start a => omega
      | html a _ hs ht => rw [hs]; simp
      | head a b hr => rcases hr with ⟨h, -⟩ | ⟨h, -⟩ | ⟨h, -⟩ <;> omega
      | raw _ _ _ _ a => omega
      | body _ _ _ a => omega
      | tmpl a => omega
    exact hBefHead H inv.wf hN hs1 h0 (by omega) t ht
  · rw [show stepM st t = headM st t by unfold stepM; rw [if_neg (by omega), if_neg (by omega), if_neg (by omega), if_pos e], e]
    have h0 : 0 < st.stk.length := by
      cases inv.shp with
      | start a => omega
      | html a _ hs ht => rw [hs]; simp
      | head a b hr => rcases hr with ⟨-, h⟩ | ⟨-, x, -, h⟩ | ⟨-, h⟩ <;> rw [h] <;> simp
      | raw _ _ _ _ a => omega
      | body _ _ _ a => omega
      | tmpl a => omega
    exact hHead H inv.wf hN hs1 hf1 hm1 t ht (fun h => absurd h (by omega)) (fun _ => ⟨h0, by omega⟩)
  · rw [show stepM st t = noscriptM st t by unfold stepM; rw [if_neg (by omega), if_neg (by omega), if_neg (by omega), if_neg (by omega), if_pos e], e]
    have h0 : 0 < st.stk.length := by
      cases inv.shp with
      | start a => omega
      | html a _ hs ht => rw [hs]; simp
      | head a b hr => rcases hr with ⟨-, h⟩ | ⟨-, x, -, h⟩ | ⟨-, h⟩ <;> rw [h] <;> simp
      | raw _ _ _ _ a => omega
      | body _ _ _ a => omega
      | tmpl a => omega
    exact hNoscript H inv.wf hN hs1 hf1 hm1 t ht h0 (by omega)
  · rw [show stepM st t = aftHeadM st t by unfold stepM; rw [if_neg (by omega), if_neg (by omega), if_neg (by omega), if_neg (by omega), if_neg (by omega), if_pos e], e]
    obtain ⟨a, b, hs, hT, hb, hab, hh⟩ := aft_shape inv e
    have hp := pushM_eq hb hh
    have hst : (pushM st).stk = [⟨(a : Int), 0, mHtml⟩, ⟨(b : Int), 0, mHead⟩] := by rw [hp]; show st.stk ++ _ = _; rw [hs]; rfl
    have hno2 : lastOf (pushM st).stk [nTemplate] < 0 := by
      rw [hst, no_tmpl (by simp [tmpl_html, tmpl_head])]; decide
    refine hAftHead H inv.wf hN (by omega) hf1 hm1 t ht (by rw [hs]; simp) (by omega) hb hh hno2 (fun _ => ?_)
    obtain ⟨f1, f2⟩ := own_facts t hno2
    have hph : (pushM st).head = st.head := by rw [hp]
    refine ⟨f1.trans hph, ?_, ixFrom_mem ?_⟩
    · rcases f2 with f2 | ⟨r, f2⟩ <;> rw [f2, hst] <;> simp
    · refine ⟨⟨(b : Int), 0, mHead⟩, ?_, hh.symm⟩
      rcases f2 with f2 | ⟨r, f2⟩ <;> rw [f2, hst] <;> simp
  · rw [show stepM st t = txtM st t by unfold stepM; rw [if_neg (by omega), if_neg (by omega), if_neg (by omega), if_neg (by omega), if_neg (by omega), if_neg (by omega), if_pos e], e]
    exact hText H inv.wf hN hs1 t ht

theorem nilF (W : World) (F : FuncId) : (binOp BinOp.eql 80 (.func (.func F) #[] #[]) .nilFunc).run Tryz.prog W = .ok (.bool false) W := by
  kernel_rfl

set_option maxRecDepth 100000 in
set_option maxHeartbeats 4000000 in
theorem hStep {w : World} {c : Col} {h : Hd} {st : St} (H : BRep w c h st) {N : Nat} (inv : Inv N st) (hN : N ≤ 9000000) (ho : ownB st.mode = true) (hst : StepsOk w c) (t : Tok) (ht : TkOk w c t) :
    Calls Tryz.prog 55 #[.pointer (some ⟨h.b, 0, none⟩), t.val] w (StepB h (stepM st t) w c) := by
  have hb0 : Below w.heap.size w (w.alloc (.cells t.cells.toArray 24)) := below_alloc (Below.refl _ _) _
  have B0 := HB.new w 24 t.cells
  obtain ⟨mb, es, clock, -, -, SA⟩ := hst.mv (Mv.of_below (S := fun _ => False) hb0) (fun _ h => h.elim)
  have D := Lib.hid (fun (W : World) (hb : Below w.heap.size w W) => (hDo (H.loc hb) inv hN ho t (ht.loc hb)).mono fun e w2 (ho : OkB h (stepM st t).1 (.bool (stepM st t).2) W c e w2) => ho.after hb)
  have MO := Lib.hid (fun (W : World) (hb : Below w.heap.size w W) => bMode (H.loc hb))
  have AR := Lib.hid (fun (W : World) (hb : Below w.heap.size w W) => bArena (H.loc hb))
  obtain ⟨b0, b1, b2, b3, b4, b5, b6, b7, b8⟩ := B0.tok
  have c0 := SA.cell
  have lk := SA.look ((w.alloc (.cells t.cells.toArray 24)).drew) st.mode SA.blk ho
  have LK := Lib.hid (fun n => SA.look ((w.alloc (.cells t.cells.toArray 24)).drewN n) st.mode SA.blk ho)
  have cf : ∀ (args : Array Value) (W : World), (callFunc (stepF st.mode) args).run Tryz.prog W = .ok (.enter (stepF st.mode) args) W := by
    rcases ownB_cases ho with e | e | e | e | e | e | e
    all_goals
      rw [e]
      intro args W
      kernel_rfl
  have CF := Lib.hid cf
  clear cf
  generalize hF : stepF st.mode = F at *
  clear H inv ho ht SA hst
  unfold Tok.val
  unfold Tok.cells at *
  go_enter Tryz.func55, Tryz.ntmps55
  go_wp2_with fail
  go_region_with (go_at_call 33; refine (MO.out _ (below_drew hb0)).mono ?_; rintro e w3 ⟨rfl, rfl⟩)
  all_goals
    have hb1 : Below w.heap.size w (w.alloc (.cells t.cells.toArray 24)).drew := below_drew hb0
    have B1 := B0.drew
    unfold Tok.cells at *
    obtain ⟨b0, b1, b2, b3, b4, b5, b6, b7, b8⟩ := B1.tok
    clear c0 lk LK
    have nf := fun W => nilF W F
    have cf := CF.out
    go_wp2_with (go_at_call 30; refine (AR.out _ hb1).mono ?_; rintro e w3 ⟨rfl, rfl⟩)
    clear nf
    refine (D.out _ hb1).mono ?_
    rintro e w4 ⟨rfl, c4, H4, m4⟩
    go_wp2_with fail
    go_ret
    exact ⟨rfl, c4, H4, m4⟩
end Go.Proofs.YtjmlkmlbhfkhbaaGreatDoor
namespace Go.Proofs.YtjmlkmlbhfkhbaaGreatDoor
open Go Go.RowKit

/-- Tokens that can be read where a slice says, in a block of nobody's. -/
def ToksAt (w : World) (c : Col) (A : Option Addr) (l : List Tok) : Prop :=
  l ≠ [] → ∃ b off, A = some ⟨b, off, none⟩ ∧ (c b).1 = 0 ∧ ∀ (i : Nat) (t : Tok), l[i]? = some t → (∀ (j : Nat) (u : Value), t.cells[j]? = some u → w.cell? ⟨b, off + i * 9 + j, none⟩ = some u) ∧ AttrsAt w c t.aA t.attrs
theorem ToksAt.mv {S : Key → Prop} {w w' : World} {c c' : Col} {A : Option Addr} {l : List Tok} (H : ToksAt w c A l) (hm : Mv S w c w' c') (hS : ∀ k, S k → k.1 ≠ 0) : ToksAt w' c' A l := by
  intro hl
  obtain ⟨b, off, h1, h2, h3⟩ := H hl
  have hlt : b < w.heap.size := by
    cases l with
    | nil => exact absurd rfl hl
    | cons x r => exact block_lt_of_cell ((h3 0 x rfl).1 0 _ rfl)
  refine ⟨b, off, h1, by rw [hm.ext b hlt]; exact h2, fun i t ht => ⟨fun j u hu => ?_, (h3 i t ht).2.mv hm hS⟩⟩
  rw [World.cell?_of_block (w := w) (hm.blk b hlt (fun hs => hS _ hs h2))]
  exact (h3 i t ht).1 j u hu
/-- One of them. -/
theorem ToksAt.get {w : World} {c : Col} {A : Option Addr} {l : List Tok} (H : ToksAt w c A l) {i : Nat} {t : Tok} (ht : l[i]? = some t) :
    ∃ b off, A = some ⟨b, off, none⟩ ∧ b < w.heap.size ∧ AttrsAt w c t.aA t.attrs ∧
      w.cell? ⟨b, off + i * 9, none⟩ = some (.int .i64 t.kind) ∧ w.cell? ⟨b, off + i * 9 + 1, none⟩ = some (.string t.name) ∧ w.cell? ⟨b, off + i * 9 + 2, none⟩ = some (.string t.text) ∧
      w.cell? ⟨b, off + i * 9 + 3, none⟩ = some (.slice t.aA t.attrs.length t.acap) ∧ w.cell? ⟨b, off + i * 9 + 4, none⟩ = some (.bool t.dup) ∧ w.cell? ⟨b, off + i * 9 + 5, none⟩ = some (.bool t.self) ∧
      w.cell? ⟨b, off + i * 9 + 6, none⟩ = some (.bool t.quirks) ∧ w.cell? ⟨b, off + i * 9 + 7, none⟩ = some (.int .i64 t.frm) ∧ w.cell? ⟨b, off + i * 9 + 8, none⟩ = some (.int .i64 t.to_) := by
  have hl : l ≠ [] := by rintro rfl; simp at ht
  obtain ⟨b, off, h1, h2, h3⟩ := H hl
  obtain ⟨h4, h5⟩ := h3 i t ht
  exact ⟨b, off, h1, block_lt_of_cell (h4 0 _ rfl), h5, h4 0 _ rfl, h4 1 _ rfl, h4 2 _ rfl, h4 3 _ rfl, h4 4 _ rfl, h4 5 _ rfl, h4 6 _ rfl, h4 7 _ rfl, h4 8 _ rfl⟩

def GreatQ (w : World) (l : List Tok) (m : Nat) (e : Ending) (w' : World) : Prop := ∃ r, e = .returned (.bool r) ∧ (r = false → l.length ≤ m ∧ ∀ t ∈ l, TkSm t) ∧ Below w.heap.size w w'

set_option maxRecDepth 100000 in
set_option maxHeartbeats 4000000 in
theorem great48 {w : World} {c : Col} {A : Option Addr} {cap : Nat} {l : List Tok} (H : ToksAt w c A l) (m : Nat) (hm : m ≤ 1000) :
    Calls Tryz.prog 48 #[.slice A l.length cap, .int .i64 m] w (GreatQ w l m) := by
  by_cases hg : m < l.length
  · have h1 : (m : Int) < (l.length : Int) := by omega
    clear H hg
    go_enter Tryz.func48, Tryz.ntmps48
    go_wp2_with fail
    go_ret
    exact ⟨true, rfl, fun h => (by cases h), Below.refl _ _⟩
  · have h1 : ¬ (m : Int) < (l.length : Int) := by omega
    have hle : l.length ≤ m := by omega
    have HH := Lib.hid H
    have HL := Lib.hid hle
    clear H hg
    go_enter Tryz.func48, Tryz.ntmps48
    go_wp2_with fail
    go_loopw [5] (fun t wr => ∃ k : Nat, k ≤ l.length ∧ t = .int .i64 k ∧ Hid (Below w.heap.size w wr ∧ ∀ (i : Nat) (t : Tok), i < k → l[i]? = some t → TkSm t)) (fun t _ => l.length - (intOf t).toNat)
    case atStart => exact ⟨0, Nat.zero_le _, rfl, Lib.hid ⟨Below.refl _ _, fun i t h => by omega⟩⟩
    case round =>
      obtain ⟨k, hk, rfl, hR⟩ := hrel
      by_cases hlt : k < l.length
      · have h2 : (k : Int) < (l.length : Int) := by omega
        have h3 : (0 : Int) ≤ (k : Int) := by omega
        obtain ⟨t, ht⟩ : ∃ t, l[k]? = some t := ⟨_, List.getElem?_eq_getElem hlt⟩
        obtain ⟨b, off, rfl, hbl, at_, d0, d1, d2, d3, d4, d5, d6, d7, d8⟩ := (HH.out.mv (Mv.of_below (S := fun _ => False) hR.out.1) (fun _ h => h.elim)).get ht
        have LG := Lib.hid (large6 wr t at_.src)
        have HT := Lib.hid ht
        have hw : IntKind.i64.wrap ((k : Int) + 1) = (k : Int) + 1 := by have := wrap_small (L := k + 1) (by omega); rwa [show (((k + 1 : Nat) : Int)) = (k : Int) + 1 by omega] at this
        clear at_ ht
        go_wp2_with fail
        refine LG.out.mono ?_
        rintro e w1 ⟨r, rfl, hr, hb1⟩
        have HRR := Lib.hid hr
        cases r
        · clear d0 d1 d2 d3 d4 d5 d6 d7 d8 hr
          go_wp2_with fail
          go_roundw
          case rel =>
            refine ⟨k + 1, by omega, by rfl, Lib.hid ⟨below_step hR.out.1 hb1, fun i t' hi ht' => ?_⟩⟩
            by_cases hik : i = k
            · subst hik
              rw [HT.out] at ht'
              obtain rfl := Option.some.inj ht'
              obtain ⟨q1, q2, q3⟩ := HRR.out (by first | rfl | trivial)
              exact ⟨q2, q3, q1⟩
            · exact hR.out.2 i t' (by omega) ht'
          case measure => simp [intOf]; omega
        · clear d0 d1 d2 d3 d4 d5 d6 d7 d8 hr
          go_wp2_with fail
          go_ret
          exact ⟨true, rfl, fun h => (by cases h), below_step hR.out.1 hb1⟩
      · have h2 : ¬ (k : Int) < (l.length : Int) := by omega
        have F : l.length ≤ m ∧ ∀ t ∈ l, TkSm t := ⟨HL.out, fun t ht => by
          obtain ⟨i, hi, e⟩ := List.getElem_of_mem ht
          exact hR.out.2 i t (by omega) (by rw [List.getElem?_eq_getElem hi, e])⟩
        have FH := Lib.hid F
        clear F
        go_wp2_with fail
        go_ret
        exact ⟨false, rfl, fun _ => FH.out, hR.out.1⟩
end Go.Proofs.YtjmlkmlbhfkhbaaGreatDoor
