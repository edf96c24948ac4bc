/-
  The builder's table of names, and found.
  The builder's found.
  The builder's Reset.
  fostered and Place where an open table's parent stands.
-/
import Derived.Test.YtjmlkmlbhfkhbaaGreatDoorHp09
import Derived.Test.YtjmlkmlbhfkhbaaGreatDoorRows
import Derived.LaidMore
import Derived.LaidSub
import Derived.LaidHandle
import Derived.MakeChecks
import Derived.ProofKit
import Derived.Stop.Joined
import Derived.Laws.IdiomMaps
import Derived.BigQuiet
set_option linter.unusedSimpArgs false
set_option linter.unusedVariables false
namespace Go.Proofs.YtjmlkmlbhfkhbaaGreatDoor
open Go Go.RowKit Go.ChangeShapes Go.WideShapes ChangeAt Go.WideMaps Go.WideElems

def byT : List (List UInt8 × Int) := [([98, 111, 100, 121], 6), ([99, 97, 112, 116, 105, 111, 110], 10), ([99, 111, 108, 103, 114, 111, 117, 112], 11), ([104, 101, 97, 100], 3), ([116, 97, 98, 108, 101], 8), ([116, 98, 111, 100, 121], 12), ([116, 100], 14), ([116, 102, 111, 111, 116], 12), ([116, 104], 14), ([116, 104, 101, 97, 100], 12), ([116, 114], 13)]
def byM (s : Str) : Option Int := (byT.find? (fun p => p.1 == s.data.toList)).map (·.2)
def byN (s : Str) : Int := (byM s).getD 0
def byB (s : Str) : Bool := (byM s).isSome
def byV (s : Str) : Value := .tuple #[.int .i64 (byN s), .bool (byB s)]

structure ByAt (w : World) (mb : Nat) (es : Array MapEntry) (clock : Nat) : Prop where
  cell : w.cell? ⟨1, 0, none⟩ = some (.map (some mb))
  blk : w.heap[mb]? = some (.map es clock)
  look : ∀ (w' : World) (s : Str), w'.heap[mb]? = some (.map es clock) → s.size ≤ maxLen → (Instr.lookup 136 (.map (some mb)) (.string s) true).run Tryz.prog w' = .ok (byV s) w'
def ByOk (w : World) (c : Col) : Prop := ∃ mb es clock, (c 1).1 = 0 ∧ (c mb).1 = 0 ∧ ByAt w mb es clock

theorem ByOk.mv {S : Key → Prop} {w w' : World} {c c' : Col} (H : ByOk w c) (hm : Mv S w c w' c') (hS : ∀ k, S k → k.1 ≠ 0) : ByOk w' c' := by
  obtain ⟨mb, es, clock, h1, h2, h3⟩ := H
  have l1 : 1 < w.heap.size := block_lt_of_cell h3.cell
  have l2 : mb < w.heap.size := (Array.getElem?_eq_some_iff.1 h3.blk).1
  refine ⟨mb, es, clock, by rw [hm.ext _ l1]; exact h1, by rw [hm.ext _ l2]; exact h2, ?_, ?_, h3.look⟩
  · rw [World.cell?_of_block (w := w) (hm.blk _ l1 (fun hs => hS _ hs h1))]; exact h3.cell
  · rw [hm.blk _ l2 (fun hs => hS _ hs h2)]; exact h3.blk
theorem ByOk.loc {w w' : World} {c : Col} (H : ByOk w c) (hb : Below w.heap.size w w') : ByOk w' c := H.mv (Mv.of_below (S := fun _ => False) hb) (fun _ h => h.elim)
theorem Pr.ne {h : Hd} (hs : h.sd ≠ 0) : ∀ k, Pr h k → k.1 ≠ 0 := fun k hk => by unfold Pr at hk; rw [hk]; exact hs

theorem gBy : Tryz.prog.globalNamed "lazaret/builder.by" = some 1 := by kernel_rfl
theorem tBy : (Tryz.prog.globals[1]?).map (·.type) = some 136 := by kernel_rfl
theorem keyLaw9 : KeyLaw Tryz.prog 9 := string_law Tryz.underlying9

abbrev nHtml : Str := ⟨#[104, 116, 109, 108]⟩
abbrev laidBy : List (String × DataW Unit) := [("lazaret/builder.by", Rows.laid_lazaret_builder_by)]

theorem find_rows (k : List UInt8) (zd : DataW Unit) : ∀ l : List (List UInt8 × Int),
    (match (l.map fun p => ((Lit.string p.1, DataW.lit (Lit.int .i64 p.2)) : Lit × DataW Unit)).find? (fun p => p.1.sameKey (.string k)) with | some p => p.2 | none => zd) =
      match (l.find? (fun p => p.1 == k)).map (·.2) with | some v => .lit (.int .i64 v) | none => zd
  | [] => rfl
  | p :: r => by
    have ih := find_rows k zd r
    cases hq : p.1 == k with
    | true => simp [List.find?, Lit.sameKey, hq]
    | false => simpa [List.find?, Lit.sameKey, hq] using ih
theorem atKey_by (s : Str) (zd : DataW Unit) : (Rows.laid_lazaret_builder_by : DataW Unit).atKey (.string s.data.toList) zd = match byM s with | some v => .lit (.int .i64 v) | none => zd :=
  by
  have e : (Rows.laid_lazaret_builder_by : DataW Unit) = .map (byT.map fun p => ((Lit.string p.1, DataW.lit (Lit.int .i64 p.2)) : Lit × DataW Unit)) := rfl
  rw [e]
  unfold byM DataW.atKey
  generalize byT = l
  have := find_rows s.data.toList zd l
  simp only
  revert this
  cases (l.find? (fun p => p.1 == s.data.toList)).map (·.2) <;> cases (l.map fun p => ((Lit.string p.1, DataW.lit (Lit.int .i64 p.2)) : Lit × DataW Unit)).find? (fun p => p.1.sameKey (.string s.data.toList)) <;> exact id

set_option maxRecDepth 100000 in
theorem by_of_laid {W : World} (h : laidMetH Tryz.prog laidBy W) : ∃ mb es clock, ByAt W mb es clock := by
  rw [MakeChecks.laidMetH_plain _ _ _ (by kernel_rfl)] at h
  obtain ⟨ps, ⟨g0, t0, cs0, f0, p0, q0, hg0, ht0, hv0, hd0, _, _⟩, _, _⟩ := h
  obtain rfl := Option.some.inj (gBy.symm.trans hg0)
  obtain rfl := Option.some.inj (tBy.symm.trans ht0)
  rcases open_map Tryz.underlying136 hd0 with ⟨_, hx⟩ | ⟨bm, es, clock, m, rfl, hcs, hb, _, F, hx⟩
  · simp [Rows.laid_lazaret_builder_by] at hx
  simp only [Prod.mk.injEq] at hx
  refine ⟨bm, es, clock, ?_, hb, ?_⟩
  · have := World.var?_cell hg0 hv0 0
    rw [Array.eq_one_of_toList hcs] at this
    simpa using this
  · intro w' s hb' hs
    have zero : (zeroValue 3).run Tryz.prog w' = .ok (.int .i64 0) w' := by kernel_rfl
    rcases fit_lookup_ok (w := w') keyLaw9 Tryz.underlying136 zero hb' F (keyOf_string_mk (s := s) Tryz.underlying9 hs) with ⟨hrun, hat⟩ | ⟨v, y, hrun, hRv, hat, _⟩
    · have h1 := hat .nil
      have h2 := hat (.agg [])
      rw [← hx.1, atKey_by] at h1 h2
      cases hm : byM s with
      | none => unfold byV byN byB; rw [hm]; exact hrun
      | some v => rw [hm] at h1; cases h1
    · obtain ⟨r, rfl, rfl, _⟩ := elemAt_int Tryz.underlying3 hRv
      have h1 := hat .nil
      rw [← hx.1, atKey_by] at h1
      cases hm : byM s with
      | none => rw [hm] at h1; cases h1
      | some v => 
        rw [hm] at h1
        cases h1
        unfold byV byN byB; rw [hm]; exact hrun

def foundR (st : St) (n : Nd) (first : Bool) : Int × Bool :=
  if n.space ≠ 0 then (0, false) else if eqS n.name nTemplate && decide (0 < st.modes.length) then ((st.modes[st.modes.length - 1]?).getD 0, true)
  else if eqS n.name nHtml && decide (st.head < 0) then (2, true) else if eqS n.name nHtml then (5, true)
  else if first && (decide (byN n.name = 14) || decide (byN n.name = 3)) then (0, false) else (byN n.name, byB n.name)

end Go.Proofs.YtjmlkmlbhfkhbaaGreatDoor
namespace Go.Proofs.YtjmlkmlbhfkhbaaGreatDoor
open Go Go.RowKit

theorem BRep.head {w : World} {c : Col} {h : Hd} {st : St} (H : BRep w c h st) : w.cell? ⟨h.b, 6, none⟩ = some (.int .i64 st.head) := by
  obtain ⟨b0, b1, b2, b3, b4, b5, b6, -⟩ := H.choose_spec.bc
  exact b6
theorem BRep.modes {w : World} {c : Col} {h : Hd} {st : St} (H : BRep w c h st) : ∃ A cap, w.cell? ⟨h.b, 5, none⟩ = some (.slice A st.modes.length cap) ∧ RowOk w c (h.sd, 10, 0) 3 1 A st.modes.length cap (intCells st.modes) := by
  obtain ⟨b0, b1, b2, b3, b4, b5, b6, -⟩ := H.choose_spec.bc
  exact ⟨_, _, b5, H.choose_spec.modes⟩

section
variable {w : World} {c : Col} {h : Hd} {st : St}

theorem ret_found {a b : Int} {x y : Bool} (h : (a, x) = (b, y)) : Ending.returned (.tuple #[.int .i64 b, .bool y]) = .returned (.tuple #[.int .i64 a, .bool x]) := by cases h; rfl

set_option maxRecDepth 100000 in
set_option maxHeartbeats 4000000 in
theorem bFound (H : BRep w c h st) (hby : ByOk w c) (n : Nd) (A : Option Addr) (c1 : Nat) (K : Option Addr) (c2 : Nat) (first : Bool) (hnm : n.name.size ≤ maxLen) (hml : st.modes.length ≤ 1000000) :
    Calls Tryz.prog 78 #[.pointer (some ⟨h.b, 0, none⟩), ndVal n A c1 K c2, .bool first] w fun e w' =>
      e = .returned (.tuple #[.int .i64 (foundR st n first).1, .bool (foundR st n first).2]) ∧ Below w.heap.size w w' := by
  have hb0 : Below w.heap.size w (w.alloc (.cells #[.int .i64 n.kind, .string n.name, .string n.text, .int .i64 n.space, .slice A n.attrs.length c1, .bool n.dup, .int .i64 n.parent, .int .i64 n.content, .slice K n.kids.length c2, .int .i64 n.frm, .int .i64 n.to_] 58)) := below_alloc (Below.refl _ _) _
  obtain ⟨mb, es, clock, -, -, B0⟩ := hby.loc hb0
  have q6 := H.head
  obtain ⟨mA, mcap, q5, hrow⟩ := H.modes
  have g1 := B0.cell
  have LK := Lib.hid (B0.look _ n.name B0.blk hnm)
  unfold byV at LK
  have ROW := Lib.hid hrow
  have hlb := H.choose_spec.hb.lt
  clear H hby hrow B0
  unfold ndVal
  by_cases hsp : n.space = 0
  · have hsp' : (n.space == 0) = true := by simp [hsp]
    have hsp2 : (n.space != 0) = false := by simp [hsp]
    cases ht : eqS n.name nTemplate
    · have ht' : (n.name.toList == [116, 101, 109, 112, 108, 97, 116, 101]) = false := by rw [← toList_mk [116, 101, 109, 112, 108, 97, 116, 101]]; exact ht
      cases hh : eqS n.name nHtml
      · have hh' : (n.name.toList == [104, 116, 109, 108]) = false := by rw [← toList_mk [104, 116, 109, 108]]; exact hh
        have R : Hid (foundR st n first = if first && (decide (byN n.name = 14) || decide (byN n.name = 3)) then (0, false) else (byN n.name, byB n.name)) := Lib.hid (by unfold foundR; rw [if_neg (by simp [hsp]), ht, hh]; simp)
        clear ht hh hsp
        cases first
        · go_enter Tryz.func78, Tryz.ntmps78
          have lk := LK.out
          go_wp2_with fail
          refine bodyPost_ret (results_tmp2 rfl _ _ _) rfl ?_
          exact ⟨ret_found (by rw [R.out]; rfl), hb0⟩
        · by_cases h14 : byN n.name = 14
          · have R2 : Hid (foundR st n true = (0, false)) := Lib.hid (by rw [R.out, decide_eq_true h14]; rfl)
            rw [h14] at LK
            go_enter Tryz.func78, Tryz.ntmps78
            have lk := LK.out
            go_wp2_with fail
            refine bodyPost_ret (results_tmp2 rfl _ _ _) rfl ?_
            exact ⟨ret_found (by rw [R2.out]), hb0⟩
          · have e14 : (byN n.name == 14) = false := by simp [h14]
            by_cases h3 : byN n.name = 3
            · have R2 : Hid (foundR st n true = (0, false)) := Lib.hid (by rw [R.out, decide_eq_true h3]; simp)
              rw [h3] at LK
              clear e14
              go_enter Tryz.func78, Tryz.ntmps78
              have lk := LK.out
              go_wp2_with fail
              refine bodyPost_ret (results_tmp2 rfl _ _ _) rfl ?_
              exact ⟨ret_found (by rw [R2.out]), hb0⟩
            · have e3 : (byN n.name == 3) = false := by simp [h3]
              have R2 : Hid (foundR st n true = (byN n.name, byB n.name)) := Lib.hid (by rw [R.out, decide_eq_false h14, decide_eq_false h3]; rfl)
              clear h14 h3 R
              go_enter Tryz.func78, Tryz.ntmps78
              have lk := LK.out
              go_wp2_with fail
              refine bodyPost_ret (results_tmp2 rfl _ _ _) rfl ?_
              exact ⟨ret_found (by rw [R2.out]), hb0⟩
      · have hh' : (n.name.toList == [104, 116, 109, 108]) = true := by rw [← toList_mk [104, 116, 109, 108]]; exact hh
        by_cases hd : st.head < 0
        · have R : Hid (foundR st n first = (2, true)) := Lib.hid (by unfold foundR; rw [if_neg (by simp [hsp]), ht, hh, decide_eq_true hd]; rfl)
          clear ht hh hsp
          go_enter Tryz.func78, Tryz.ntmps78
          have lk := LK.out
          go_wp2_with fail
          refine bodyPost_ret (results_tmp2 rfl _ _ _) rfl ?_
          exact ⟨ret_found (by rw [R.out]), hb0⟩
        · have R : Hid (foundR st n first = (5, true)) := Lib.hid (by unfold foundR; rw [if_neg (by simp [hsp]), ht, hh, decide_eq_false hd]; rfl)
          clear ht hh hsp
          go_enter Tryz.func78, Tryz.ntmps78
          have lk := LK.out
          go_wp2_with fail
          refine bodyPost_ret (results_tmp2 rfl _ _ _) rfl ?_
          exact ⟨ret_found (by rw [R.out]), hb0⟩
    · have ht' : (n.name.toList == [116, 101, 109, 112, 108, 97, 116, 101]) = true := by rw [← toList_mk [116, 101, 109, 112, 108, 97, 116, 101]]; exact ht
      by_cases hm : 0 < st.modes.length
      · have R : Hid (foundR st n first = ((st.modes[st.modes.length - 1]?).getD 0, true)) := Lib.hid (by unfold foundR; rw [if_neg (by simp [hsp]), ht, decide_eq_true hm]; rfl)
        obtain ⟨g, rfl, -, -, hc, -⟩ := ROW.out.at_ (by simpa using hm)
        have hc1 := hc (st.modes.length - 1) (.int .i64 ((st.modes[st.modes.length - 1]?).getD 0)) (by simp [intCells]; rw [List.getElem?_eq_getElem (by omega)]; rfl)
        have hi1 : (0 : Int) ≤ (st.modes.length : Int) - 1 := by omega
        have hi2 : (st.modes.length : Int) - 1 < (st.modes.length : Int) := by omega
        have hi3 : ((st.modes.length : Int) - 1).toNat = st.modes.length - 1 := by omega
        have hm' : (0 : Int) < (st.modes.length : Int) := by omega
        have hb1 : ∀ m, Below w.heap.size w ((w.alloc (.cells #[.int .i64 n.kind, .string n.name, .string n.text, .int .i64 n.space, .slice A n.attrs.length c1, .bool n.dup, .int .i64 n.parent, .int .i64 n.content, .slice K n.kids.length c2, .int .i64 n.frm, .int .i64 n.to_] 58)).drewN m) := fun m => below_step hb0 (bdrewN _ m)
        have hgb := block_lt_of_cell hc1
        clear ht hsp hc hm
        go_enter Tryz.func78, Tryz.ntmps78
        have lk := LK.out
        go_wp2_with fail
        go_quiet (fail)
        go_wp2_with fail
        refine bodyPost_ret (results_tmp2 rfl _ _ _) rfl ?_
        exact ⟨ret_found (by rw [R.out]), hb1 _⟩
      · have hm0 : st.modes.length = 0 := by omega
        have hh' : (n.name.toList == [104, 116, 109, 108]) = false := by
          have e : n.name.toList = [116, 101, 109, 112, 108, 97, 116, 101] := by simpa using ht'
          rw [e]; decide
        have hq : eqS n.name nHtml = false := by rw [← toList_mk [104, 116, 109, 108]] at hh'; exact hh'
        have hm1 : (0 : Int) < (st.modes.length : Int) ↔ False := by simp [hm0]
        have R : Hid (foundR st n first = if first && (decide (byN n.name = 14) || decide (byN n.name = 3)) then (0, false) else (byN n.name, byB n.name)) := Lib.hid (by unfold foundR; rw [if_neg (by simp [hsp]), ht, hq, hm0]; simp)
        have e1 : byN n.name = 0 := by
          have e : n.name.toList = [116, 101, 109, 112, 108, 97, 116, 101] := by simpa using ht'
          have : n.name.data.toList = [116, 101, 109, 112, 108, 97, 116, 101] := by rw [← ByteArray.toList_eq]; exact e
          unfold byN byM
          rw [this]; rfl
        rw [e1] at R LK
        clear ht hsp hm hq
        rw [hm0] at q5
        go_enter Tryz.func78, Tryz.ntmps78
        have lk := LK.out
        go_wp2_with fail
        all_goals (refine bodyPost_ret (results_tmp2 rfl _ _ _) rfl ?_)
        all_goals exact ⟨ret_found (by rw [R.out]; cases first <;> rfl), hb0⟩
  · have hsp' : (n.space == 0) = false := by simp [hsp]
    have R : Hid (foundR st n first = (0, false)) := Lib.hid (by unfold foundR; rw [if_pos hsp])
    clear hsp
    go_enter Tryz.func78, Tryz.ntmps78
    have lk := LK.out
    go_wp2_with fail
    refine bodyPost_ret (results_tmp2 rfl _ _ _) rfl ?_
    exact ⟨ret_found (by rw [R.out]), hb0⟩
end
end Go.Proofs.YtjmlkmlbhfkhbaaGreatDoor
namespace Go.Proofs.YtjmlkmlbhfkhbaaGreatDoor
open Go Go.RowKit

def resetFrom (st : St) : Nat → Int
  | 0 => 6
  | k + 1 => match st.stk[k]? with
    | some o => match st.ns[o.node.toNat]? with
      | some n => if (foundR st n (k == 0)).2 then (foundR st n (k == 0)).1 else resetFrom st k
      | none => 6
    | none => 6
def resetM (st : St) : St := { st with mode := resetFrom st st.stk.length }

set_option maxRecDepth 100000 in
set_option maxHeartbeats 8000000 in
theorem bReset {w : World} {c : Col} {h : Hd} {st : St} (H : BRep w c h st) (hby : ByOk w c) {N : Nat} (hs : Sz N st) (hN : N ≤ 100000000) (hl : st.stk.length ≤ 1000000) (hml : st.modes.length ≤ 1000000) (hop : OpenOk st) (hnm : ∀ (i : Nat) (n : Nd), st.ns[i]? = some n → n.name.size ≤ maxLen) :
    Calls Tryz.prog 26 #[.pointer (some ⟨h.b, 0, none⟩)] w (OkB h (resetM st) (.tuple #[]) w c) := by
  have N1 := Lib.hid (bNone H)
  have L := Lib.hid (sLen (H.choose_spec.sv hl))
  obtain ⟨b0, b1, b2⟩ := H.ptrs
  have HH := Lib.hid H
  have HB' := Lib.hid hby
  have HS := Lib.hid hs
  have HO := Lib.hid hop
  have HNM := Lib.hid hnm
  have hbl := H.choose_spec.hb.lt
  have FIN : Hid (∀ (W : World) (m : Int), Below w.heap.size w W → m = resetFrom st st.stk.length → OkB h (resetM st) (.tuple #[]) w c (.returned (.tuple #[])) (W.setCell ⟨h.b, 3, none⟩ (.int .i64 m))) := Lib.hid fun W m hW hm => by
    subst hm
    obtain ⟨x, X⟩ := H.loc hW
    exact ⟨rfl, c, ⟨x, X.setB 3 _ (resetM st) x rfl rfl rfl rfl rfl rfl rfl ⟨rfl, rfl⟩ rfl⟩, (Mv.of_below hW).trans (X.mvB 3 _)⟩
  have FZ : Hid (∀ W, Below w.heap.size w W → W.cell? ⟨h.b, 3, none⟩ = some (.int .i64 st.mode) ∧ W.frozen? ⟨h.b, 3, none⟩ = false) := Lib.hid fun W hW => by
    obtain ⟨b0, b1, b2, b3, -⟩ := (H.loc hW).choose_spec.bc
    exact ⟨b3, (H.loc hW).choose_spec.hb.frozen 3⟩
  clear H hby hs hop hnm
  go_enter Tryz.func26, Tryz.ntmps26
  go_wp2_with (first
    | (go_at_call 63; refine N1.out.mono ?_; rintro e w1 ⟨rfl, rfl⟩)
    | (go_at_call 77; refine L.out.mono ?_; rintro e w1 ⟨rfl, rfl⟩))
  go_loopw [2] (fun t wr => ∃ k : Nat, k ≤ st.stk.length ∧ t = .int .i64 ((k : Int) - 1) ∧ Hid (resetFrom st k = resetFrom st st.stk.length) ∧ Below w.heap.size w wr) (fun t _ => (intOf t + 1).toNat)
  case atStart => exact ⟨st.stk.length, Nat.le_refl _, rfl, Lib.hid rfl, Below.refl _ _⟩
  case round =>
    obtain ⟨k, hk, rfl, hlf, hb⟩ := hrel
    by_cases h0 : 0 < k
    · obtain ⟨k, rfl⟩ : ∃ m, k = m + 1 := ⟨k - 1, by omega⟩
      have Hr := HH.out.loc hb
      obtain ⟨o, ho⟩ : ∃ o, st.stk[k]? = some o := ⟨st.stk[k], List.getElem?_eq_getElem (by omega)⟩
      obtain ⟨i, n, e1, e2, e3, e4, e5⟩ := HO.out k o ho
      have AT := Lib.hid (fun (W : World) (hW : Below w.heap.size w W) => sAt ((HH.out.loc hW).choose_spec.sv hl) (k : Int))
      have e6 : atOf st.stk (k : Int) = (i : Int) := by unfold atOf; rw [if_pos (by omega)]; simp [ho, e1]
      rw [e6] at AT
      obtain ⟨c0, c1, -⟩ := Hr.ptrs
      have hbr : h.b < wr.heap.size := Nat.lt_of_lt_of_le hbl hb.size
      have e7 : ((k + 1 : Nat) : Int) - 1 = (k : Int) := by omega
      have HLS : Hid (resetFrom st (k + 1) = if (foundR st n (k == 0)).2 then (foundR st n (k == 0)).1 else resetFrom st k) := Lib.hid (by
        rw [resetFrom, ho]; simp only [e1, Int.toNat_natCast, e2])
      have E2 := Lib.hid e2
      have HN := Lib.hid (HNM.out i n e2)
      have ek : ((k : Int) == 0) = (k == 0) := by
        cases k with
        | zero => rfl
        | succ m =>
          have : ((m + 1 : Nat) : Int) ≠ 0 := by omega
          rw [beq_eq_false_iff_ne.2 this]
          rfl
      rw [e7]
      have h0' : (0 : Int) ≤ (k : Int) := by omega
      clear ho e1 e2 e3 e4 e5 e6 e7 b0 b1 Hr
      generalize hq0 : (k == 0) = kz at *
      go_wp2_with fail
      have KEEP : Hid (∀ W, Below w.heap.size w W → W.cell? ⟨h.b, 0, none⟩ = some (.pointer (some ⟨h.a, 0, none⟩)) ∧ W.cell? ⟨h.b, 1, none⟩ = some (.pointer (some ⟨h.s, 0, none⟩)) ∧ Below w.heap.size w W) := Lib.hid fun W hW => by
        obtain ⟨x0, x1, -⟩ := (HH.out.loc hW).ptrs
        exact ⟨x0, x1, hW⟩
      go_region_held3 (fun w' => w'.cell? ⟨h.b, 0, none⟩ = some (.pointer (some ⟨h.a, 0, none⟩)) ∧ w'.cell? ⟨h.b, 1, none⟩ = some (.pointer (some ⟨h.s, 0, none⟩)) ∧ Below w.heap.size w w')
        (first | exact KEEP.out _ (below_drew hb) | (go_split_ands; refine KEEP.out _ ?_; first | assumption | exact below_alloc (by assumption) _ | exact below_step (by assumption) (by assumption)))
        (first
        | (go_at_call 79; refine Calls.mono (AT.out _ (below_drew hb)) ?_; rintro e w1 ⟨rfl, rfl⟩)
        | (go_at_call 72; refine Calls.mono (aNodeB (HH.out.loc (below_drew hb)) HS.out hN E2.out) ?_; rintro e w2 ⟨A, c1, K, c2, rfl, hb2, -, -⟩)
        | (go_at_call 78; refine Calls.mono (bFound (HH.out.loc (below_step (below_drew hb) hb2)) (HB'.out.loc (below_step (below_drew hb) hb2)) n A c1 K c2 kz HN.out hml) ?_; rintro e w3 ⟨rfl, hb3⟩))
      all_goals
        go_split_ands
        cases hq : (foundR st n kz).2
        · have HQ := Lib.hid hq
          go_wp2_with fail
          go_roundw
          case rel =>
            refine ⟨k, by omega, rfl, Lib.hid ?_, by assumption⟩
            rw [← hlf.out, HLS.out, HQ.out]
            rfl
          case measure => simp [intOf]
        · have HQ := Lib.hid hq
          obtain ⟨fc, fz⟩ := FZ.out w3 (by assumption)
          go_wp2_with fail
          refine bodyPost_ret (results_none rfl _ _ _) rfl ?_
          exact FIN.out w3 _ (by assumption) (by rw [← hlf.out, HLS.out, HQ.out]; rfl)
    · obtain rfl : k = 0 := by omega
      obtain ⟨c0, c1, -⟩ := (HH.out.loc hb).ptrs
      obtain ⟨fc, fz⟩ := FZ.out _ hb
      have hbr : h.b < wr.heap.size := Nat.lt_of_lt_of_le hbl hb.size
      clear b0 b1
      go_wp2_with fail
      go_end0
      exact FIN.out _ _ hb hlf.out
end Go.Proofs.YtjmlkmlbhfkhbaaGreatDoor
namespace Go.Proofs.YtjmlkmlbhfkhbaaGreatDoor
open Go Go.RowKit
abbrev nTable : Str := ⟨#[116, 97, 98, 108, 101]⟩
abbrev nTbody : Str := ⟨#[116, 98, 111, 100, 121]⟩
abbrev nTfoot : Str := ⟨#[116, 102, 111, 111, 116]⟩
abbrev nThead : Str := ⟨#[116, 104, 101, 97, 100]⟩
abbrev nTr : Str := ⟨#[116, 114]⟩

section
variable {w : World} {c : Col} {h : Hd} {st : St}

theorem fld6' (n : Nd) (A : Option Addr) (c1 : Nat) (K : Option Addr) (c2 : Nat) (W : World) : (Instr.field 58 (ndVal n A c1 K c2) 6).run Tryz.prog W = .ok (.int .i64 n.parent) W := fld6 n A c1 K c2 W

set_option maxRecDepth 100000 in
set_option maxHeartbeats 4000000 in
theorem bFostered (H : BRep w c h st) {N : Nat} (hs : Sz N st) (hN : N ≤ 100000000) (hl : st.stk.length ≤ 1000000) (hop : OpenOk st)
    (h1 : lastOf st.stk [nTemplate] = -1) {k : Int} (h2 : lastOf st.stk [nTable] = k) (hk : 0 ≤ k) {t : Nat} (ht : atOf st.stk k = (t : Int)) {n : Nd} (hn : st.ns[t]? = some n) (hp : 0 ≤ n.parent) :
    Calls Tryz.prog 82 #[.pointer (some ⟨h.b, 0, none⟩)] w fun e w' => e = .returned (.tuple #[.int .i64 n.parent, .int .i64 t]) ∧ Below w.heap.size w w' := by
  have L1 := Lib.hid (fun (W : World) (hW : Below w.heap.size w W) => bLast (H.loc hW) hs hN hl hop nTemplate)
  have L2 := Lib.hid (fun (W : World) (hW : Below w.heap.size w W) => bLast (H.loc hW) hs hN hl hop nTable)
  rw [h1] at L1
  rw [h2] at L2
  have AT := Lib.hid (fun (W : World) (hW : Below w.heap.size w W) => sAt ((H.loc hW).choose_spec.sv hl) k)
  rw [ht] at AT
  have ND := Lib.hid (fun (W : World) (hW : Below w.heap.size w W) => aNodeB (H.loc hW) hs hN hn)
  have PT := Lib.hid (fun (W : World) (hW : Below w.heap.size w W) => (H.loc hW).ptrs)
  clear H hs hop h1 h2 ht hn
  go_enter Tryz.func82, Tryz.ntmps82
  go_wp2_with fail
  refine (L1.out _ (Below.refl _ _)).mono ?_
  rintro e w1 ⟨rfl, hb1⟩
  go_wp2_with fail
  refine (L2.out _ hb1).mono ?_
  rintro e w2 ⟨rfl, hb2⟩
  have hB := below_step hb1 hb2
  obtain ⟨q0, q1, q2⟩ := PT.out _ hB
  have hk1 : ¬ (-1 : Int) > k := by omega
  have hk2 : ¬ k < 0 := by omega
  go_wp2_with (go_at_call 79; refine (AT.out _ hB).mono ?_; rintro e w3 ⟨rfl, rfl⟩)
  refine (ND.out _ hB).mono ?_
  rintro e w3 ⟨A, c1, K, c2, rfl, hb3, -, -⟩
  have f6 := fld6' n A c1 K c2 w3
  go_wp2_with fail
  refine bodyPost_ret (results_tmp2 rfl _ _ _) rfl ?_
  exact ⟨rfl, below_step hB hb3⟩

set_option maxRecDepth 100000 in
set_option maxHeartbeats 4000000 in
theorem bPlaceF (H : BRep w c h st) {N : Nat} (hs : Sz N st) (hN : N ≤ 100000000) (hl : st.stk.length ≤ 1000000) (hop : OpenOk st) (hf : st.foster = true)
    (h1 : lastOf st.stk [nTemplate] = -1) {k : Int} (h2 : lastOf st.stk [nTable] = k) (hk : 0 ≤ k) {t : Nat} (ht : atOf st.stk k = (t : Int)) {n : Nd} (hn : st.ns[t]? = some n) {p : Nat} (hp : n.parent = (p : Int)) {np : Nd} (hnp : st.ns[p]? = some np)
    {g : Nat} {ng : Nd} (hg : st.ns[g]? = some ng) (hgt : htmlN ng [nTable, nTbody, nTfoot, nThead, nTr] = true) :
    Calls Tryz.prog 28 #[.pointer (some ⟨h.b, 0, none⟩), .int .i64 g] w fun e w' => e = .returned (.tuple #[.int .i64 p, .int .i64 t]) ∧ Below w.heap.size w w' := by
  have N1 := Lib.hid (bNone H)
  have FO := Lib.hid (fun (W : World) (hW : Below w.heap.size w W) => bFostered (H.loc hW) hs hN hl hop h1 h2 hk ht hn (by omega))
  rw [hp] at FO
  have ND := Lib.hid (fun (W : World) (hW : Below w.heap.size w W) => aNodeB (H.loc hW) hs hN hg)
  have NP := Lib.hid (fun (W : World) (hW : Below w.heap.size w W) => aNodeB (H.loc hW) hs hN hnp)
  have PT := Lib.hid (fun (W : World) (hW : Below w.heap.size w W) => And.intro (H.loc hW).ptrs (show W.cell? ⟨h.b, 9, none⟩ = some (.bool true) by
    obtain ⟨b0, b1, b2, b3, b4, b5, b6, b7, b8, b9, -⟩ := (H.loc hW).choose_spec.bc
    rw [hf] at b9
    exact b9))
  obtain ⟨⟨b0, b1, b2⟩, b9⟩ := PT.out _ (Below.refl _ _)
  have ht0 : (0 : Int) ≤ (t : Int) := by omega
  clear H hs hop h1 h2 ht hn hp hnp hg hf
  go_enter Tryz.func28, Tryz.ntmps28
  go_wp2_with (go_at_call 63; refine N1.out.mono ?_; rintro e w1 ⟨rfl, rfl⟩)
  refine (ND.out _ (Below.refl _ _)).mono ?_
  rintro e w2 ⟨A, c1, K, c2, rfl, hb2, -, -⟩
  go_wp2_with (go_at_call 81; refine Calls.mono (bHtml _ ng A c1 K c2 _ 5 [nTable, nTbody, nTfoot, nThead, nTr] (by simp) (by exact Strs.mk_ _ (by simp))) ?_; rintro e w3 ⟨rfl, hb3⟩; rw [hgt])
  have hB3 := below_step (below_alloc hb2 _) hb3
  refine (FO.out _ hB3).mono ?_
  rintro e w4 ⟨rfl, hb4⟩
  have hB4 := below_step hB3 hb4
  obtain ⟨⟨q0, q1, q2⟩, q9⟩ := PT.out _ hB4
  go_wp2_with fail
  refine (NP.out _ hB4).mono ?_
  rintro e w5 ⟨A', c1', K', c2', rfl, hb5, -, -⟩
  unfold ndVal
  go_wp2_with fail
  refine bodyPost_ret (results_tmp2 rfl _ _ _) rfl ?_
  exact ⟨rfl, below_alloc (below_step hB4 hb5) _⟩
end
end Go.Proofs.YtjmlkmlbhfkhbaaGreatDoor
