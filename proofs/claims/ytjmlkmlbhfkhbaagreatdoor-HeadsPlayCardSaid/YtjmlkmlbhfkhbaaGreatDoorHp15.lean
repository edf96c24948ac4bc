/-
  Large: whether a token is too large for the law.
  Arena.More: attributes that an element has not.
  Arena.More: an element's attributes with those of a tag that it has not.
  Chars and Comment keep a good state and its shape.
  The builder's HTML where no template is open.
-/
import Derived.Test.YtjmlkmlbhfkhbaaGreatDoorHp14
import Derived.Test.YtjmlkmlbhfkhbaaGreatDoorHp09
import Derived.BigQuiet
import Derived.Deep.RegionLaw
import Derived.Test.YtjmlkmlbhfkhbaaGreatDoorHp13
import Derived.Test.YtjmlkmlbhfkhbaaGreatDoorHp11
set_option linter.unusedSimpArgs false
set_option linter.unusedVariables false
namespace Go.Proofs.YtjmlkmlbhfkhbaaGreatDoor
open Go Go.RowKit

theorem attr_at {l : List At} {k : Nat} {p : At} (h : l[k]? = some p) : (attrCells l)[k * 2]? = some (.string p.1) ∧ (attrCells l)[k * 2 + 1]? = some (.string p.2) := by
  induction l generalizing k with
  | nil => simp at h
  | cons q l ih =>
    cases k with
    | zero => simp at h; subst h; simp [attrCells]
    | succ k =>
      have := ih (k := k) (by simpa using h)
      simp only [attrCells, List.flatMap_cons] at this ⊢
      rw [show (k + 1) * 2 = k * 2 + 1 + 1 by omega]
      exact this

theorem add_off (b off j : Nat) : (⟨b, off, none⟩ : Addr).add j = ⟨b, off + j, none⟩ := by
  unfold Addr.add
  split
  · rename_i h; subst h; rfl
  · rfl

/-- What Large says of a token. -/
def LargeQ (w : World) (t : Tok) (e : Ending) (w' : World) : Prop := ∃ b, e = .returned (.bool b) ∧ (b = false → t.attrs.length ≤ 10 ∧ t.name.size ≤ 300 ∧ t.text.size ≤ 300) ∧ Below w.heap.size w w'

set_option maxRecDepth 100000 in
set_option maxHeartbeats 4000000 in
theorem large6 (w : World) (t : Tok) (hs : Src w t.aA (attrCells t.attrs)) : Calls Tryz.prog 6 #[t.val] w (LargeQ w t) := by
  obtain ⟨kind, name, text, attrs, aA, acap, dup, self, quirks, frm, to_⟩ := t
  have hb0 : Below w.heap.size w (w.alloc (.cells (⟨kind, name, text, attrs, aA, acap, dup, self, quirks, frm, to_⟩ : Tok).cells.toArray 24)) := below_alloc (Below.refl _ _) _
  by_cases hbig : (name.size ≤ 300 ∧ text.size ≤ 300) ∧ attrs.length ≤ 10
  · obtain ⟨⟨hn1, hn2⟩, hn3⟩ := hbig
    have HN := Lib.hid (And.intro hn3 (And.intro hn1 hn2))
    have HT := (HB.new w 24 (⟨kind, name, text, attrs, aA, acap, dup, self, quirks, frm, to_⟩ : Tok).cells).tok
    obtain ⟨b0, b1, b2, b3, -⟩ := HT
    have KEY : Hid (∀ W, Below (w.alloc (.cells (⟨kind, name, text, attrs, aA, acap, dup, self, quirks, frm, to_⟩ : Tok).cells.toArray 24)).heap.size (w.alloc (.cells (⟨kind, name, text, attrs, aA, acap, dup, self, quirks, frm, to_⟩ : Tok).cells.toArray 24)) W → W.cell? ⟨w.heap.size, 3, none⟩ = some (.slice aA attrs.length acap) ∧ w.heap.size < W.heap.size ∧ Below w.heap.size w W ∧
        ∀ (k : Nat) (p : At), attrs[k]? = some p → ∃ b off, aA = some ⟨b, off, none⟩ ∧ W.cell? ⟨b, off + k * 2, none⟩ = some (.string p.1) ∧ W.cell? ⟨b, off + k * 2 + 1, none⟩ = some (.string p.2)) := Lib.hid fun W hW => by
      have HT := (((HB.new w 24 (⟨kind, name, text, attrs, aA, acap, dup, self, quirks, frm, to_⟩ : Tok).cells).below hW).tok)
      refine ⟨HT.2.2.2.1, by have := hW.size; simp at this; omega, below_step hb0 hW, fun k p hp => ?_⟩
      have hs' := (hs.loc hb0).loc hW
      obtain ⟨q1, q2⟩ := attr_at hp
      cases hA : aA with
      | none => have := hs'.1 hA; rw [this] at q1; simp at q1
      | some ad =>
        have c1 := hs'.2 ad hA _ _ q1
        have c2 := hs'.2 ad hA _ _ q2
        obtain ⟨b, off, spot⟩ := ad
        have c0 : ∃ u, W.cell? ((⟨b, off, spot⟩ : Addr).add 0) = some u := by
          cases hl : attrCells attrs with
          | nil => rw [hl] at q1; simp at q1
          | cons u r => exact ⟨u, hs'.2 _ hA 0 u (by rw [hl]; rfl)⟩
        obtain ⟨u, c0⟩ := c0
        have hspot : spot = none := by simpa [Addr.add] using World.cell?_spot c0
        subst hspot
        rw [add_off] at c1 c2
        exact ⟨b, off, rfl, c1, c2⟩
    have hq1 : ¬ ((name.size : Int) > 300) := by omega
    have hq2 : ¬ ((text.size : Int) > 300) := by omega
    have hq3 : ¬ ((attrs.length : Int) > 10) := by omega
    clear hs
    unfold Tok.val
    unfold Tok.cells at *
    go_enter Tryz.func6, Tryz.ntmps6
    go_wp2_with fail
    have KEY0 := KEY
    clear b0 b1 b2 b3 hb0 hn1 hn2 hq1 hq2 hq3
    go_loopw [3, 4] (fun s3 _ wr => ∃ k : Nat, k ≤ attrs.length ∧ s3 = .int .i64 k ∧ Below (w.alloc (.cells (⟨kind, name, text, attrs, aA, acap, dup, self, quirks, frm, to_⟩ : Tok).cells.toArray 24)).heap.size (w.alloc (.cells (⟨kind, name, text, attrs, aA, acap, dup, self, quirks, frm, to_⟩ : Tok).cells.toArray 24)) wr) (fun s3 _ _ => attrs.length - (intOf s3).toNat)
    case atStart => exact ⟨0, Nat.zero_le _, rfl, Below.refl _ _⟩
    case round =>
      obtain ⟨k, hk, rfl, hb⟩ := hrel
      obtain ⟨b3, hz, hbw, hat⟩ := KEY.out _ hb
      by_cases hlt : k < attrs.length
      · obtain ⟨p, hp⟩ : ∃ p, attrs[k]? = some p := ⟨attrs[k], List.getElem?_eq_getElem hlt⟩
        obtain ⟨b, off, rfl, c1, c2⟩ := hat k p hp
        have HAT := Lib.hid hat
        clear hat hp
        have h0 : (0 : Int) ≤ (k : Int) := by omega
        have h1 : (k : Int) < (attrs.length : Int) := by omega
        go_wp2_with fail
        all_goals try (go_ret; exact ⟨true, rfl, (fun h => by cases h), hbw⟩)
        go_loopw [4] (fun s4 wr2 => ∃ j : Nat, j ≤ k ∧ s4 = .int .i64 j ∧ Below (w.alloc (.cells (⟨kind, name, text, attrs, some ⟨b, off, none⟩, acap, dup, self, quirks, frm, to_⟩ : Tok).cells.toArray 24)).heap.size (w.alloc (.cells (⟨kind, name, text, attrs, some ⟨b, off, none⟩, acap, dup, self, quirks, frm, to_⟩ : Tok).cells.toArray 24)) wr2) (fun s4 _ => k - (intOf s4).toNat)
        case atStart => exact ⟨0, Nat.zero_le _, rfl, hb⟩
        case round =>
          obtain ⟨j, hj, rfl, hb2⟩ := hrel
          obtain ⟨d3, dz, dbw, dat⟩ := KEY.out _ hb2
          clear c1 c2 b3 hz hbw
          by_cases hjk : j < k
          · obtain ⟨q, hq⟩ : ∃ q, attrs[j]? = some q := ⟨attrs[j], List.getElem?_eq_getElem (by omega)⟩
            obtain ⟨b', off', eA', e1, e2⟩ := dat j q hq
            cases eA'
            obtain ⟨p', hp'⟩ : ∃ q, attrs[k]? = some q := ⟨attrs[k], List.getElem?_eq_getElem (by omega)⟩
            obtain ⟨b'', off'', eA'', e3, e4⟩ := dat k p' hp'
            cases eA''
            clear dat hq hp'
            have g0 : (0 : Int) ≤ (j : Int) := by omega
            have g1 : (j : Int) < (attrs.length : Int) := by omega
            have g2 : (j : Int) < (k : Int) := by omega
            go_wp2_with fail
            go_quiet (fail)
            go_wp2_with fail
            · go_ret
              exact ⟨true, rfl, (fun h => by cases h), below_step dbw (bdrewN _ _)⟩
            · go_roundw
              case rel => exact ⟨j + 1, by omega, by go_num, below_step hb2 (bdrewN _ _)⟩
              case measure => simp [intOf]; omega
          · obtain rfl : j = k := by omega
            clear dat
            go_wp2_with fail
            go_roundw
            case rel => exact ⟨j + 1, by omega, by go_num, hb2⟩
            case measure => simp [intOf]; omega
      · obtain rfl : k = attrs.length := by omega
        clear hat
        go_wp2_with fail
        go_ret
        exact ⟨false, rfl, fun _ => HN.out, hbw⟩
  · have hq : name.size ≤ 300 → text.size ≤ 300 → 10 < attrs.length := by
      intro h1 h2
      by_cases h3 : attrs.length ≤ 10
      · exact absurd ⟨⟨h1, h2⟩, h3⟩ hbig
      · omega
    obtain ⟨b0, b1, b2, b3, -⟩ := (HB.new w 24 (⟨kind, name, text, attrs, aA, acap, dup, self, quirks, frm, to_⟩ : Tok).cells).tok
    unfold Tok.val
    unfold Tok.cells at *
    clear hbig hs
    by_cases h1 : name.size ≤ 300
    · have i1 : ¬ ((name.size : Int) > 300) := by omega
      by_cases h2 : text.size ≤ 300
      · have i2 : ¬ ((text.size : Int) > 300) := by omega
        have i3 : ((attrs.length : Int) > 10) := by have := hq h1 h2; omega
        go_enter Tryz.func6, Tryz.ntmps6
        go_wp2_with fail
        go_ret
        exact ⟨true, rfl, (fun h => by cases h), hb0⟩
      · have i2 : ((text.size : Int) > 300) := by omega
        go_enter Tryz.func6, Tryz.ntmps6
        go_wp2_with fail
        go_ret
        exact ⟨true, rfl, (fun h => by cases h), hb0⟩
    · have i1 : ((name.size : Int) > 300) := by omega
      go_enter Tryz.func6, Tryz.ntmps6
      go_wp2_with fail
      go_ret
      exact ⟨true, rfl, (fun h => by cases h), hb0⟩
end Go.Proofs.YtjmlkmlbhfkhbaaGreatDoor
namespace Go.Proofs.YtjmlkmlbhfkhbaaGreatDoor
open Go Go.RowKit

def hasN (ats : List At) (nm : Str) : Bool := ats.any fun p => eqS p.1 nm
def moreL (ats : List At) : List At → List At
  | [] => ats
  | p :: r => moreL (if hasN ats p.1 then ats else ats ++ [p]) r

set_option maxHeartbeats 400000 in
theorem clo129 (w : World) (p : At) (g : Nat) (nm : Str) (hg : w.cell? ⟨g, 0, none⟩ = some (.string nm)) :
    Calls Tryz.prog 129 #[.agg #[.string p.1, .string p.2], .pointer (some ⟨g, 0, none⟩)] w fun e w' => e = .returned (.bool (eqS p.1 nm)) ∧ Below w.heap.size w w' := by
  have hgl := block_lt_of_cell hg
  go_enter Tryz.func129, Tryz.ntmps129
  go_wp2_with fail
  go_ret
  exact ⟨rfl, below_alloc (Below.refl _ _) _⟩

theorem hasN_take {ats : List At} {k : Nat} {p : At} (hp : ats[k]? = some p) (nm : Str) : hasN (ats.take (k + 1)) nm = (hasN (ats.take k) nm || eqS p.1 nm) := by
  unfold hasN
  rw [List.take_add_one, hp]
  simp
theorem hasN_of_take {ats : List At} {k : Nat} {nm : Str} (h : hasN (ats.take k) nm = true) : hasN ats nm = true := by
  unfold hasN at h ⊢
  rw [List.any_eq_true] at h ⊢
  obtain ⟨q, hq, hq2⟩ := h
  exact ⟨q, List.mem_of_mem_take hq, hq2⟩

set_option maxHeartbeats 1000000 in
theorem idxF (w : World) (A : Option Addr) (cap : Nat) (ats : List At) (hn : ats.length ≤ 1000000000) (hs : Src w A (attrCells ats)) (g : Nat) (nm : Str) (hg : w.cell? ⟨g, 0, none⟩ = some (.string nm)) :
    Calls Tryz.prog 163 #[.slice A ats.length cap, .func (.func 129) #[] #[.pointer (some ⟨g, 0, none⟩)]] w fun e w' => ∃ i : Int, e = .returned (.int .i64 i) ∧ (0 ≤ i ↔ hasN ats nm = true) ∧ Below w.heap.size w w' := by
  have hgl := block_lt_of_cell hg
  have KEY : Hid (∀ W, Below w.heap.size w W → W.cell? ⟨g, 0, none⟩ = some (.string nm) ∧
      ∀ (k : Nat) (p : At), ats[k]? = some p → ∃ b off, A = some ⟨b, off, none⟩ ∧ W.cell? ⟨b, off + k * 2, none⟩ = some (.string p.1) ∧ W.cell? ⟨b, off + k * 2 + 1, none⟩ = some (.string p.2)) := Lib.hid fun W hW => by
    refine ⟨by rw [hW.cell hgl]; exact hg, fun k p hp => ?_⟩
    have hs' := hs.loc hW
    obtain ⟨q1, q2⟩ := attr_at hp
    cases hA : A with
    | none => have := hs'.1 hA; rw [this] at q1; simp at q1
    | some ad =>
      have c1 := hs'.2 ad hA _ _ q1
      have c2 := hs'.2 ad hA _ _ q2
      obtain ⟨b, off, spot⟩ := ad
      have c0 : ∃ u, W.cell? ((⟨b, off, spot⟩ : Addr).add 0) = some u := by
        cases hl : attrCells ats with
        | nil => rw [hl] at q1; simp at q1
        | cons u r => exact ⟨u, hs'.2 _ hA 0 u (by rw [hl]; rfl)⟩
      obtain ⟨u, c0⟩ := c0
      have hspot : spot = none := by simpa [Addr.add] using World.cell?_spot c0
      subst hspot
      rw [add_off] at c1 c2
      exact ⟨b, off, rfl, c1, c2⟩
  clear hs hg
  go_enter Tryz.func163, Tryz.ntmps163
  go_wp2_with fail
  go_loopw [5, 8] (fun _ s8 wr => ∃ k : Nat, k ≤ ats.length ∧ s8 = .int .i64 k ∧ hasN (ats.take k) nm = false ∧ Below w.heap.size w wr) (fun _ s8 _ => ats.length - (intOf s8).toNat)
  case atStart => exact ⟨0, Nat.zero_le _, rfl, rfl, Below.refl _ _⟩
  case round =>
    obtain ⟨k, hk, rfl, hno, hb⟩ := hrel
    obtain ⟨hg, hat⟩ := KEY.out _ hb
    have HNO := Lib.hid hno
    clear hno
    by_cases hlt : k < ats.length
    · obtain ⟨p, hp⟩ : ∃ p, ats[k]? = some p := ⟨ats[k], List.getElem?_eq_getElem hlt⟩
      obtain ⟨b, off, rfl, c1, c2⟩ := hat k p hp
      have HP := Lib.hid hp
      clear hat hp
      have h0 : (0 : Int) ≤ (k : Int) := by omega
      have h1 : (k : Int) < (ats.length : Int) := by omega
      cases hq : eqS p.1 nm
      · have HQ := Lib.hid hq
        go_wp2_with (go_at_call 129; refine (clo129 _ p g nm hg).mono ?_; rintro e w1 ⟨rfl, hb1⟩; rw [hq])
        go_roundw
        case rel => exact ⟨k + 1, by omega, by go_num, by rw [hasN_take HP.out, HNO.out, HQ.out]; rfl, below_step hb hb1⟩
        case measure => simp [intOf]; omega
      · have HQ := Lib.hid hq
        go_wp2_with (go_at_call 129; refine (clo129 _ p g nm hg).mono ?_; rintro e w1 ⟨rfl, hb1⟩; rw [hq])
        go_ret
        refine ⟨k, rfl, ⟨fun _ => ?_, fun _ => by omega⟩, below_step hb hb1⟩
        exact hasN_of_take (k := k + 1) (by rw [hasN_take HP.out, HQ.out]; simp)
    · obtain rfl : k = ats.length := by omega
      clear hat
      go_wp2_with fail
      go_ret
      refine ⟨-1, rfl, ⟨fun h => absurd h (by decide), fun h => ?_⟩, hb⟩
      have := HNO.out
      rw [List.take_length] at this
      rw [this] at h
      cases h

set_option maxHeartbeats 400000 in
theorem conF (w : World) (A : Option Addr) (cap : Nat) (ats : List At) (hn : ats.length ≤ 1000000000) (hs : Src w A (attrCells ats)) (g : Nat) (nm : Str) (hg : w.cell? ⟨g, 0, none⟩ = some (.string nm)) :
    Calls Tryz.prog 128 #[.slice A ats.length cap, .func (.func 129) #[] #[.pointer (some ⟨g, 0, none⟩)]] w fun e w' => e = .returned (.bool (hasN ats nm)) ∧ Below w.heap.size w w' := by
  have IX := Lib.hid (idxF w A cap ats hn hs g nm hg)
  clear hs hg
  go_enter Tryz.func128, Tryz.ntmps128
  go_wp2_with fail
  refine IX.out.mono ?_
  rintro e w1 ⟨i, rfl, hi, hb1⟩
  have HI := Lib.hid hi
  clear hi
  go_wp2_with fail
  go_ret
  refine ⟨?_, hb1⟩
  congr 2
  cases hq : hasN ats nm
  · have := HI.out
    rw [hq] at this
    simpa using this
  · have := HI.out
    rw [hq] at this
    simpa using this
end Go.Proofs.YtjmlkmlbhfkhbaaGreatDoor
namespace Go.Proofs.YtjmlkmlbhfkhbaaGreatDoor
open Go Go.RowKit

def moreM (st : St) (i : Nat) (n : Nd) (l : List At) : St := { st with ns := st.ns.set i { n with attrs := moreL n.attrs l } }
theorem moreL_take {l : List At} {k : Nat} {p : At} (hp : l[k]? = some p) : ∀ (ats : List At), moreL ats (l.take (k + 1)) = (let m := moreL ats (l.take k); if hasN m p.1 then m else m ++ [p]) := by
  induction l generalizing k with
  | nil => simp at hp
  | cons q l ih =>
    intro ats
    cases k with
    | zero => simp at hp; subst hp; simp [moreL]
    | succ k =>
      have := ih (k := k) (by simpa using hp) (if hasN ats q.1 then ats else ats ++ [q])
      simpa [moreL] using this
theorem moreL_len (ats l : List At) : (moreL ats l).length ≤ ats.length + l.length := by
  induction l generalizing ats with
  | nil => simp [moreL]
  | cons q l ih =>
    have := ih (if hasN ats q.1 then ats else ats ++ [q])
    simp only [moreL, List.length_cons]
    by_cases hq : hasN ats q.1 = true
    · rw [if_pos hq] at this ⊢; omega
    · rw [if_neg hq] at this ⊢
      rw [List.length_append] at this
      simp only [List.length_cons, List.length_nil] at this
      omega
theorem AttrsAt.src {w : World} {c : Col} {A : Option Addr} {l : List At} (h : AttrsAt w c A l) : Src w A (attrCells l) :=
  ⟨fun e => by rw [h.1 e]; rfl, fun ad had j u hu => (h.2 ad had).2 j u hu⟩

set_option maxRecDepth 100000 in
set_option maxHeartbeats 8000000 in
theorem aMore {w : World} {c : Col} {h : Hd} {st : St} (H : BRep w c h st) {N : Nat} (hs : Sz N st) (hN : N ≤ 10000000) {i : Nat} {n : Nd} (hi : st.ns[i]? = some n) (hk : n.kind = 3)
    (A : Option Addr) (l : List At) (cap : Nat) (hA : AttrsAt w c A l) (hl : l.length ≤ 1000) :
    Calls Tryz.prog 80 #[.pointer (some ⟨h.a, 0, none⟩), .int .i64 i, .slice A l.length cap] w (OkB h (moreM st i n l) (.int .i64 0) w c) := by
  have hil : i < st.ns.length := (List.getElem?_eq_some_iff.1 hi).1
  have hn := (hs.2.2 i n hi).1
  have hsd := H.sd
  have HH := Lib.hid H
  have ATT : Hid (∀ W C, Mv (Pr h) w c W C → ∀ (k : Nat) (p : At), l[k]? = some p → ∃ b off, A = some ⟨b, off, none⟩ ∧ W.cell? ⟨b, off + k * 2, none⟩ = some (.string p.1) ∧ W.cell? ⟨b, off + k * 2 + 1, none⟩ = some (.string p.2)) := Lib.hid fun W C hm k p hp => by
    have hs' := (hA.mv hm (Pr.ne hsd)).src
    obtain ⟨q1, q2⟩ := attr_at hp
    cases hA : A with
    | none => have := hs'.1 hA; rw [this] at q1; simp at q1
    | some ad =>
      have c1 := hs'.2 ad hA _ _ q1
      have c2 := hs'.2 ad hA _ _ q2
      obtain ⟨b, off, spot⟩ := ad
      have c0 : ∃ u, W.cell? ((⟨b, off, spot⟩ : Addr).add 0) = some u := by
        cases hl : attrCells l with
        | nil => rw [hl] at q1; simp at q1
        | cons u r => exact ⟨u, hs'.2 _ hA 0 u (by rw [hl]; rfl)⟩
      obtain ⟨u, c0⟩ := c0
      have hspot : spot = none := by simpa [Addr.add] using World.cell?_spot c0
      subst hspot
      rw [add_off] at c1 c2
      exact ⟨b, off, rfl, c1, c2⟩
  obtain ⟨X, HX⟩ := H
  have hlen : X.cs.length = st.ns.length := by rw [← HX.ns]; simp
  have AVw := HX.av (by have := hs.1; omega)
  obtain ⟨y, hy, rfl⟩ := HX.nodeOf hi
  have NO := Lib.hid (aNone AVw (by omega))
  have HA := Lib.hid (aHas AVw (i : Int))
  obtain ⟨b0, -⟩ := AVw.node hy
  rw [hk] at b0
  have a0 := AVw.1
  have hp0 : (0 : Int) ≤ (i : Int) := by omega
  have hp1 : (i : Int) < X.cs.length := by omega
  have eh : (decide (0 ≤ (i : Int)) && decide ((i : Int) < (X.cs.length : Int))) = true := by simp [hp1]
  rw [eh] at HA
  have e0 : moreM st i y.nd (l.take 0) = st := by
    have e := (List.getElem?_eq_some_iff.1 hi).2
    show ({ st with ns := st.ns.set i y.nd } : St) = st
    rw [← e, List.set_getElem_self]
  have E0 := Lib.hid e0
  have hny : y.nd.attrs.length ≤ N := hn
  have hns := hs.1
  obtain ⟨t0, ht0, hz0, hz1, hz2⟩ := info_parts info84
  have HI := Lib.hid hi
  clear hA e0 hs hi
  go_enter Tryz.func80, Tryz.ntmps80
  go_wp2_with (first
    | (go_at_call 111; refine NO.out.mono ?_; rintro e w1 ⟨rfl, rfl⟩)
    | (go_at_call 113; refine HA.out.mono ?_; rintro e w1 ⟨rfl, rfl⟩))
  clear a0 b0 AVw NO HA hp1
  go_loopw [8, 30] (fun _ s30 wr => ∃ k : Nat, k ≤ l.length ∧ s30 = .int .i64 k ∧ ∃ cr, BRep wr cr h (moreM st i y.nd (l.take k)) ∧ Mv (Pr h) w c wr cr) (fun _ s30 _ => l.length - (intOf s30).toNat)
  case atStart => exact ⟨0, Nat.zero_le _, rfl, c, by rw [E0.out]; exact HH.out, Mv.refl _ _ _⟩
  case round =>
    obtain ⟨k, hk', rfl, cr, Hr, mr⟩ := hrel
    by_cases hlt : k < l.length
    · obtain ⟨p, hp⟩ : ∃ p, l[k]? = some p := ⟨l[k], List.getElem?_eq_getElem hlt⟩
      obtain ⟨b, off, rfl, c1, c2⟩ := ATT.out _ _ mr k p hp
      have MT := Lib.hid (moreL_take hp y.nd.attrs)
      have hml := moreL_len y.nd.attrs (l.take k)
      rw [List.length_take] at hml
      generalize hM : moreL y.nd.attrs (l.take k) = m at *
      have hir : (moreM st i y.nd (l.take k)).ns[i]? = some { y.nd with attrs := m } := by
        unfold moreM
        simp only [hM]
        exact List.getElem?_set_self hil
      have hlr : (moreM st i y.nd (l.take k)).ns.length = st.ns.length := by unfold moreM; simp
      obtain ⟨Xr, Hx⟩ := Hr
      obtain ⟨yr, hyr, eyr⟩ := Hx.nodeOf hir
      have eyl : yr.nd.attrs = m := by rw [eyr]
      have RK := (Hx.nodes.each i yr hyr).2
      have hrl : i < Xr.cs.length := (List.getElem?_eq_some_iff.1 hyr).1
      have AVr := Hx.av (by rw [hlr]; omega)
      obtain ⟨-, -, -, -, r4, -⟩ := AVr.node hyr
      have ra := AVr.1
      have hxl := Hx.ha.lt
      obtain ⟨rfz, hgl⟩ := Hx.fz (by omega)
      have rf4 := rfz (i * 11 + 4)
      have i1 : (i : Int) < (Xr.cs.length : Int) := by omega
      rw [eyl] at r4 RK
      have h0 : (0 : Int) ≤ (k : Int) := by omega
      have h1 : (k : Int) < (l.length : Int) := by omega
      have CF := Lib.hid (conF _ yr.aA yr.acap m (by omega) (RK.src.loc (below_alloc (Below.refl _ _) (.cells #[.string p.1, .string p.2] 84))) wr.heap.size p.1 ((HB.new wr 84 [.string p.1, .string p.2]).cell 0))
      have HYR := Lib.hid hyr
      have HXR := Lib.hid Hx
      have EYR := Lib.hid eyr
      have MR := Lib.hid mr
      have WRAP : Hid (∀ (W : World) (C : Col) (ks : List At), moreL y.nd.attrs (l.take (k + 1)) = ks → (∃ x, BRepX W C h x { (moreM st i y.nd (l.take k)) with ns := (moreM st i y.nd (l.take k)).ns.set i { yr.nd with attrs := ks } }) → BRep W C h (moreM st i y.nd (l.take (k + 1)))) := Lib.hid fun W C ks hks hx => by
        have e : ({ (moreM st i y.nd (l.take k)) with ns := (moreM st i y.nd (l.take k)).ns.set i { yr.nd with attrs := ks } } : St) = moreM st i y.nd (l.take (k + 1)) := by
          unfold moreM
          simp only [hks, List.set_set, eyr]
        rw [← e]; exact hx
      have SAME : Hid (hasN m p.1 = true → moreM st i y.nd (l.take (k + 1)) = moreM st i y.nd (l.take k)) := Lib.hid fun hq => by
        unfold moreM
        rw [MT.out, if_pos hq, hM]
      clear hyr eyr hir AVr hp mr Hx
      go_wp2_with fail
      refine CF.out.mono ?_
      rintro e w9 ⟨rfl, hb9⟩
      have hB9 : Below wr.heap.size wr w9 := below_step (below_alloc (Below.refl _ _) _) hb9
      have nb := ((HB.new wr 84 [.string p.1, .string p.2]).below hb9)
      have n0 : w9.cell? ⟨wr.heap.size, 0, none⟩ = some (.string p.1) := nb.cell 0
      have n1 : w9.cell? ⟨wr.heap.size, 1, none⟩ = some (.string p.2) := nb.cell 1
      have nlt := nb.lt
      obtain ⟨k1, k2, k3, k4, k5, k6⟩ := HXR.out.keepAV (Mv.of_below (S := fun _ => False) hB9) id id (by omega)
      have k7 := k6 i yr 4 _ HYR.out rfl
      have k8 := k3 (i * 11 + 4)
      rw [eyl] at k7
      have hbm : m.length ≤ 100000000 := by omega
      clear k3 k6 nb ra r4 rf4 rfz c1 c2 RK
      cases hq : hasN m p.1
      · have HQ := Lib.hid hq
        have RK9 : RowOk w9 cr (h.sd, 5, i) 84 2 yr.aA m.length yr.acap (attrCells m) := by
          have := (HXR.out.nodes.each i yr HYR.out).2.kp (kp_below hB9)
          rw [eyl] at this
          exact this
        go_wp2_with fail
        go_region_law (refine step_append_row _ cr (h.sd, 5, i) rfl (.tmp 57) (.tmp 59) 22 rfl 84 t0 _ 2 32 Tryz.underlying22 ht0 hz0 hz1 hz2 rfl (by decide) _ m.length yr.acap (attrCells m) rfl (by exact RK9.kp (kp_below (below_drew (below_alloc (Below.refl _ _) _)))) _ 1 1 [.string p.1, .string p.2] rfl (by rfl) (by simp) (by exact news_new _ _ _) (by simp [Value.oneCell']) (by unfold maxLen; omega) (by omega) ?_; intro A2 cp2 w2 c2 hrow2 hmv2; obtain ⟨k1, k2, k3, k4, k5, k6⟩ := HXR.out.keepAV ((Mv.of_below (S := (· = (h.sd, 5, i))) (below_step hB9 (below_drew (below_alloc (Below.refl _ _) _)))).trans hmv2) (by simp) (by simp) (by omega); have k7 := k6 i yr 4 _ HYR.out rfl; have k8 := k3 (i * 11 + 4); clear k3 k6)
        all_goals
          have hrow3 : RowOk w2 c2 (h.sd, 5, i) 84 2 A2 (m ++ [p]).length cp2 (attrCells (m ++ [p])) := by simpa [attrCells] using hrow2
          have sk := setAttrs HXR.out HYR.out (below_step hB9 (below_drew (below_alloc (Below.refl _ _) _))) hrow3 hmv2
          rw [show (m ++ [p]).length = m.length + 1 by simp] at sk
          go_wp2_with fail
          go_roundw
          case rel => exact ⟨k + 1, by omega, by go_num, c2, WRAP.out _ _ (m ++ [p]) (by rw [MT.out, if_neg (by rw [HQ.out]; decide)]) ⟨_, sk.1⟩, MR.out.trans sk.2⟩
          case measure => simp [intOf]; omega
      · have HQ := Lib.hid hq
        go_wp2_with fail
        go_roundw
        case rel => exact ⟨k + 1, by omega, by go_num, cr, by rw [SAME.out HQ.out]; exact (show BRep wr cr h (moreM st i y.nd (l.take k)) from ⟨Xr, HXR.out⟩).loc hB9, MR.out.trans (Mv.of_below hB9)⟩
        case measure => simp [intOf]; omega
    · obtain rfl : k = l.length := by omega
      rw [List.take_length] at Hr
      have HM := Lib.hid (And.intro Hr mr)
      clear Hr mr
      go_wp2_with fail
      go_ret
      exact ⟨rfl, cr, HM.out.1, HM.out.2⟩
end Go.Proofs.YtjmlkmlbhfkhbaaGreatDoor
namespace Go.Proofs.YtjmlkmlbhfkhbaaGreatDoor
open Go Go.RowKit

theorem Wf.text {N : Nat} {st : St} (wf : Wf N st) {p : Nat} (hp : p < st.ns.length) {s : Str} (hs : s.size ≤ 1000) : Wf (N + 1003) { st with ns := textN st.ns p s } := by
  unfold textN
  split
  · exact wf.more (by omega)
  · split
    · exact wf.more (by omega)
    · rename_i np hnp
      split
      · exact wf.put (by simp [txtNd]) hs hp
      · rename_i k hk
        split
        · exact wf.more (by omega)
        · rename_i nl hnl
          split
          · have h1 := wf.sz.2.2 _ nl hnl
            refine wf.set_ (by omega) hnl rfl rfl rfl rfl rfl rfl (by show nl.attrs.length ≤ _; omega) ?_
            show (nl.text ++ s).size ≤ _
            rw [ByteArray.size_append]
            omega
          · exact wf.put (by simp [txtNd]) hs hp

theorem Inv_chars {N : Nat} {st : St} (wf : Wf N st) (hsh : Shp st) {s : Str} (hs : s.size ≤ 1000) : Wf (N + 1003) (chM st s) ∧ Shp (chM st s) := by
  have hl : 0 < st.ns.length := by have := wf.sz.2.1; omega
  unfold chM
  split
  · exact ⟨wf.more (by omega), hsh⟩
  · obtain ⟨n, t1, t2, t3⟩ := wf.tgt
    obtain ⟨np, p1, p2, p3⟩ := wf.place t1 t3
    have hp := (List.getElem?_eq_some_iff.1 p1).1
    exact ⟨wf.text hp hs, hsh.quiet hl (textN_quiet wf hp s)⟩
theorem Inv_comment {N : Nat} {st : St} (wf : Wf N st) (hsh : Shp st) {s : Str} (hs : s.size ≤ 1000) {p : Nat} (hp : p < st.ns.length) : Wf (N + 1003) (cmM st s p) ∧ Shp (cmM st s p) := by
  have hl : 0 < st.ns.length := by have := wf.sz.2.1; omega
  exact ⟨wf.put (by simp [cmC]) hs hp, hsh.quiet hl (quiet_put wf.kid hp (by simp [cmC]))⟩
theorem Inv_more {N : Nat} {st : St} (wf : Wf N st) (hsh : Shp st) {i : Nat} {n : Nd} (hn : st.ns[i]? = some n) {l : List At} (hl : l.length ≤ 1000) : Wf (N + 1003) (moreM st i n l) ∧ Shp (moreM st i n l) := by
  have hl0 : 0 < st.ns.length := by have := wf.sz.2.1; omega
  have h1 := wf.sz.2.2 i n hn
  refine ⟨wf.set_ (by omega) hn rfl rfl rfl rfl rfl rfl ?_ (by show n.text.size ≤ _; omega), hsh.quiet hl0 (quiet_set wf.kid hn rfl rfl rfl rfl)⟩
  have := moreL_len n.attrs l
  show (moreL n.attrs l).length ≤ _
  omega
end Go.Proofs.YtjmlkmlbhfkhbaaGreatDoor
namespace Go.Proofs.YtjmlkmlbhfkhbaaGreatDoor
open Go Go.RowKit

set_option maxRecDepth 100000 in
set_option maxHeartbeats 4000000 in
theorem bHTML {w : World} {c : Col} {h : Hd} {st : St} (H : BRep w c h st) {N : Nat} (hs : Sz N st) (hN : N ≤ 10000000) (hl : st.stk.length ≤ 1000000) (hop : OpenOk st) (hno : lastOf st.stk [nTemplate] < 0)
    {o : OpE} (ho : st.stk[0]? = some o) {a : Nat} (ea : o.node = (a : Int)) {n : Nd} (hn : st.ns[a]? = some n) (hk : n.kind = 3) (t : Tok) (hA : AttrsAt w c t.aA t.attrs) (hta : t.attrs.length ≤ 1000) :
    Calls Tryz.prog 27 #[.pointer (some ⟨h.b, 0, none⟩), t.val] w (OkB h (moreM st a n t.attrs) (.tuple #[]) w c) := by
  have hb0 : Below w.heap.size w (w.alloc (.cells t.cells.toArray 24)) := below_alloc (Below.refl _ _) _
  have N1 := Lib.hid (bNone (H.loc hb0))
  have OP := Lib.hid (bOpen (H.loc hb0) hs (by omega) hl hop nTemplate)
  rw [show decide (0 ≤ lastOf st.stk [nTemplate]) = false by simpa using hno] at OP
  have PT := Lib.hid (fun (W : World) (hW : Below w.heap.size w W) => (H.loc hW).ptrs)
  have AT := Lib.hid (fun (W : World) (hW : Below w.heap.size w W) => sAt ((H.loc hW).choose_spec.sv hl) 0)
  rw [show atOf st.stk 0 = (a : Int) by unfold atOf; rw [if_pos (by decide)]; simp [ho, ea]] at AT
  have MO := Lib.hid (fun (W : World) (hW : Below w.heap.size w W) => aMore (H.loc hW) hs hN hn hk t.aA t.attrs t.acap (hA.loc hW) hta)
  have BOX : Hid (∀ W, Below (w.alloc (.cells t.cells.toArray 24)).heap.size (w.alloc (.cells t.cells.toArray 24)) W → HB W w.heap.size 24 t.cells) := Lib.hid fun W hW => (HB.new w 24 t.cells).below hW
  clear H hs hop hno ho ea hn hA
  unfold Tok.val
  unfold Tok.cells at *
  go_enter Tryz.func27, Tryz.ntmps27
  go_upto_region 2 with (first
    | (go_at_call 63; refine N1.out.mono ?_; rintro e w1 ⟨rfl, rfl⟩)
    | (go_at_call 44; refine OP.out.mono ?_; rintro e w1 ⟨rfl, hb1⟩; have hB := below_step hb0 hb1; obtain ⟨q0, q1, q2⟩ := PT.out _ hB; have hbx := (BOX.out _ hb1).tok; obtain ⟨b0, b1, b2, b3, -⟩ := hbx; have hzb := (BOX.out _ hb1).lt))
  go_region_with (first
    | (go_at_call 79; refine (AT.out _ (below_drew hB)).mono ?_; rintro e w3 ⟨rfl, rfl⟩)
    | (go_at_call 80; refine (MO.out _ (below_drew hB)).mono ?_; intro e w4 ho; obtain ⟨rfl, c4, H4, m4⟩ := ho.after (below_drew hB)))
  all_goals
    go_wp2_with fail
    go_end0
    exact ⟨rfl, c4, H4, m4⟩
end Go.Proofs.YtjmlkmlbhfkhbaaGreatDoor
