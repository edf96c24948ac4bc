/-
  Large: whether a token is too large for the law.
-/
import Derived.Test.YtjmlkmlbhfkhbaaGreatDoorNn2
namespace Go.Proofs.YtjmlkmlbhfkhbaaGreatDoor
open Go Go.RowKit

theorem attr_at {l : List At} {k : Nat} {p : At} (h : l[k]? = some p) : (attrCells l)[k * 2]? = some (.string p.1) ∧ (attrCells l)[k * 2 + 1]? = some (.string p.2) := by
  induction l generalizing k with
  | nil => simp at h
  | cons q l ih =>
    cases k with
    | zero => simp at h; subst h; simp [attrCells]
    | succ k =>
      have := ih (k := k) (by simpa using h)
      simp only [attrCells, List.flatMap_cons] at this ⊢
      rw [show (k + 1) * 2 = k * 2 + 1 + 1 by omega]
      exact this

theorem add_off (b off j : Nat) : (⟨b, off, none⟩ : Addr).add j = ⟨b, off + j, none⟩ := by
  unfold Addr.add
  split
  · rename_i h; subst h; rfl
  · rfl

/-- What Large says of a token. -/
def LargeQ (w : World) (t : Tok) (e : Ending) (w' : World) : Prop := ∃ b, e = .returned (.bool b) ∧ (b = false → t.attrs.length ≤ 10 ∧ t.name.size ≤ 300 ∧ t.text.size ≤ 300) ∧ Below w.heap.size w w'

set_option maxRecDepth 100000 in
set_option maxHeartbeats 4000000 in
theorem large6 (w : World) (t : Tok) (hs : Src w t.aA (attrCells t.attrs)) : Calls Tryz.prog 6 #[t.val] w (LargeQ w t) := by
  obtain ⟨kind, name, text, attrs, aA, acap, dup, self, quirks, frm, to_⟩ := t
  have hb0 : Below w.heap.size w (w.alloc (.cells (⟨kind, name, text, attrs, aA, acap, dup, self, quirks, frm, to_⟩ : Tok).cells.toArray 24)) := below_alloc (Below.refl _ _) _
  by_cases hbig : (name.size ≤ 300 ∧ text.size ≤ 300) ∧ attrs.length ≤ 10
  · obtain ⟨⟨hn1, hn2⟩, hn3⟩ := hbig
    have HN := Lib.hid (And.intro hn3 (And.intro hn1 hn2))
    have HT := (HB.new w 24 (⟨kind, name, text, attrs, aA, acap, dup, self, quirks, frm, to_⟩ : Tok).cells).tok
    obtain ⟨b0, b1, b2, b3, -⟩ := HT
    have KEY : Hid (∀ W, Below (w.alloc (.cells (⟨kind, name, text, attrs, aA, acap, dup, self, quirks, frm, to_⟩ : Tok).cells.toArray 24)).heap.size (w.alloc (.cells (⟨kind, name, text, attrs, aA, acap, dup, self, quirks, frm, to_⟩ : Tok).cells.toArray 24)) W → W.cell? ⟨w.heap.size, 3, none⟩ = some (.slice aA attrs.length acap) ∧ w.heap.size < W.heap.size ∧ Below w.heap.size w W ∧
        ∀ (k : Nat) (p : At), attrs[k]? = some p → ∃ b off, aA = some ⟨b, off, none⟩ ∧ W.cell? ⟨b, off + k * 2, none⟩ = some (.string p.1) ∧ W.cell? ⟨b, off + k * 2 + 1, none⟩ = some (.string p.2)) := Lib.hid fun W hW => by
      have HT := (((HB.new w 24 (⟨kind, name, text, attrs, aA, acap, dup, self, quirks, frm, to_⟩ : Tok).cells).below hW).tok)
      refine ⟨HT.2.2.2.1, by have := hW.size; simp at this; omega, below_step hb0 hW, fun k p hp => ?_⟩
      have hs' := (hs.loc hb0).loc hW
      obtain ⟨q1, q2⟩ := attr_at hp
      cases hA : aA with
      | none => have := hs'.1 hA; rw [this] at q1; simp at q1
      | some ad =>
        have c1 := hs'.2 ad hA _ _ q1
        have c2 := hs'.2 ad hA _ _ q2
        obtain ⟨b, off, spot⟩ := ad
        have c0 : ∃ u, W.cell? ((⟨b, off, spot⟩ : Addr).add 0) = some u := by
          cases hl : attrCells attrs with
          | nil => rw [hl] at q1; simp at q1
          | cons u r => exact ⟨u, hs'.2 _ hA 0 u (by rw [hl]; rfl)⟩
        obtain ⟨u, c0⟩ := c0
        have hspot : spot = none := by simpa [Addr.add] using World.cell?_spot c0
        subst hspot
        rw [add_off] at c1 c2
        exact ⟨b, off, rfl, c1, c2⟩
    have hq1 : ¬ ((name.size : Int) > 300) := by omega
    have hq2 : ¬ ((text.size : Int) > 300) := by omega
    have hq3 : ¬ ((attrs.length : Int) > 10) := by omega
    clear hs
    unfold Tok.val
    unfold Tok.cells at *
    go_enter Tryz.func6, Tryz.ntmps6
    go_wp2_with fail
    have KEY0 := KEY
    clear b0 b1 b2 b3 hb0 hn1 hn2 hq1 hq2 hq3
    go_loopw [3, 4] (fun s3 _ wr => ∃ k : Nat, k ≤ attrs.length ∧ s3 = .int .i64 k ∧ Below (w.alloc (.cells (⟨kind, name, text, attrs, aA, acap, dup, self, quirks, frm, to_⟩ : Tok).cells.toArray 24)).heap.size (w.alloc (.cells (⟨kind, name, text, attrs, aA, acap, dup, self, quirks, frm, to_⟩ : Tok).cells.toArray 24)) wr) (fun s3 _ _ => attrs.length - (intOf s3).toNat)
    case atStart => exact ⟨0, Nat.zero_le _, rfl, Below.refl _ _⟩
    case round =>
      obtain ⟨k, hk, rfl, hb⟩ := hrel
      obtain ⟨b3, hz, hbw, hat⟩ := KEY.out _ hb
      by_cases hlt : k < attrs.length
      · obtain ⟨p, hp⟩ : ∃ p, attrs[k]? = some p := ⟨attrs[k], List.getElem?_eq_getElem hlt⟩
        obtain ⟨b, off, rfl, c1, c2⟩ := hat k p hp
        have HAT := Lib.hid hat
        clear hat hp
        have h0 : (0 : Int) ≤ (k : Int) := by omega
        have h1 : (k : Int) < (attrs.length : Int) := by omega
        go_wp2_with fail
        all_goals try (go_ret; exact ⟨true, rfl, (fun h => by cases h), hbw⟩)
        go_loopw [4] (fun s4 wr2 => ∃ j : Nat, j ≤ k ∧ s4 = .int .i64 j ∧ Below (w.alloc (.cells (⟨kind, name, text, attrs, some ⟨b, off, none⟩, acap, dup, self, quirks, frm, to_⟩ : Tok).cells.toArray 24)).heap.size (w.alloc (.cells (⟨kind, name, text, attrs, some ⟨b, off, none⟩, acap, dup, self, quirks, frm, to_⟩ : Tok).cells.toArray 24)) wr2) (fun s4 _ => k - (intOf s4).toNat)
        case atStart => exact ⟨0, Nat.zero_le _, rfl, hb⟩
        case round =>
          obtain ⟨j, hj, rfl, hb2⟩ := hrel
          obtain ⟨d3, dz, dbw, dat⟩ := KEY.out _ hb2
          clear c1 c2 b3 hz hbw
          by_cases hjk : j < k
          · obtain ⟨q, hq⟩ : ∃ q, attrs[j]? = some q := ⟨attrs[j], List.getElem?_eq_getElem (by omega)⟩
            obtain ⟨b', off', eA', e1, e2⟩ := dat j q hq
            cases eA'
            obtain ⟨p', hp'⟩ : ∃ q, attrs[k]? = some q := ⟨attrs[k], List.getElem?_eq_getElem (by omega)⟩
            obtain ⟨b'', off'', eA'', e3, e4⟩ := dat k p' hp'
            cases eA''
            clear dat hq hp'
            have g0 : (0 : Int) ≤ (j : Int) := by omega
            have g1 : (j : Int) < (attrs.length : Int) := by omega
            have g2 : (j : Int) < (k : Int) := by omega
            go_wp2_with fail
            go_quiet (fail)
            go_wp2_with fail
            · go_ret
              exact ⟨true, rfl, (fun h => by cases h), below_step dbw (bdrewN _ _)⟩
            · go_roundw
              case rel => exact ⟨j + 1, by omega, by go_num, below_step hb2 (bdrewN _ _)⟩
              case measure => simp [intOf]; omega
          · obtain rfl : j = k := by omega
            clear dat
            go_wp2_with fail
            go_roundw
            case rel => exact ⟨j + 1, by omega, by go_num, hb2⟩
            case measure => simp [intOf]; omega
      · obtain rfl : k = attrs.length := by omega
        clear hat
        go_wp2_with fail
        go_ret
        exact ⟨false, rfl, fun _ => HN.out, hbw⟩
  · have hq : name.size ≤ 300 → text.size ≤ 300 → 10 < attrs.length := by
      intro h1 h2
      by_cases h3 : attrs.length ≤ 10
      · exact absurd ⟨⟨h1, h2⟩, h3⟩ hbig
      · omega
    obtain ⟨b0, b1, b2, b3, -⟩ := (HB.new w 24 (⟨kind, name, text, attrs, aA, acap, dup, self, quirks, frm, to_⟩ : Tok).cells).tok
    unfold Tok.val
    unfold Tok.cells at *
    clear hbig hs
    by_cases h1 : name.size ≤ 300
    · have i1 : ¬ ((name.size : Int) > 300) := by omega
      by_cases h2 : text.size ≤ 300
      · have i2 : ¬ ((text.size : Int) > 300) := by omega
        have i3 : ((attrs.length : Int) > 10) := by have := hq h1 h2; omega
        go_enter Tryz.func6, Tryz.ntmps6
        go_wp2_with fail
        go_ret
        exact ⟨true, rfl, (fun h => by cases h), hb0⟩
      · have i2 : ((text.size : Int) > 300) := by omega
        go_enter Tryz.func6, Tryz.ntmps6
        go_wp2_with fail
        go_ret
        exact ⟨true, rfl, (fun h => by cases h), hb0⟩
    · have i1 : ((name.size : Int) > 300) := by omega
      go_enter Tryz.func6, Tryz.ntmps6
      go_wp2_with fail
      go_ret
      exact ⟨true, rfl, (fun h => by cases h), hb0⟩
end Go.Proofs.YtjmlkmlbhfkhbaaGreatDoor
