/-
  The law BuilderNone (3), walked.
-/
import Derived.Test.YtjmlkmlbhfkhbaaGreatDoorLrg
namespace Go.Proofs.YtjmlkmlbhfkhbaaGreatDoor
open Go Go.RowKit

def zeroBld : List Value := [.pointer none, .pointer none, .pointer none, .int .i64 0, .int .i64 0, .slice none 0 0, .int .i64 0, .int .i64 0, .bool false, .bool false, .bool false, .string ⟨#[]⟩, .pointer none, .nilIface]

/-- What holds where the law ends. -/
def LawQ (w : World) (c : Col) (e : Ending) (w' : World) : Prop := e = .returned (.bool true) ∧ ∃ c', Mv Own w c w' c'

set_option maxRecDepth 100000 in
set_option maxHeartbeats 16000000 in
theorem law3 {w : World} {c : Col} (hg : Good w c) (hby : ByOk w c) (t : Tok) (m : Int) (hs : Src w t.aA (attrCells t.attrs)) :
    Calls Tryz.prog 3 #[t.val, .int .i64 m] w (LawQ w c) := by
  have hb0 : Below w.heap.size w (w.alloc (.cells t.cells.toArray 24)) := below_alloc (Below.refl _ _) _
  have GROW : Hid (∀ W, Below w.heap.size w W → Calls Tryz.prog 7 #[] W fun e w' => e = .returned (.bool true) ∧ ∃ c', Mv Own w c w' c') := Lib.hid fun W hW => by
    have hm : Mv Own w c W c := Mv.of_below hW
    refine (grows7 (hm.gd hg) (hby.loc hW)).mono ?_
    rintro e w' ⟨rfl, c', h'⟩
    exact ⟨rfl, c', hm.trans h'⟩
  have LG := Lib.hid (large6 _ t (hs.loc hb0))
  have KEY0 : Hid (∀ W, Below (w.alloc (.cells t.cells.toArray 24)).heap.size (w.alloc (.cells t.cells.toArray 24)) W → HB W w.heap.size 24 t.cells ∧ Below w.heap.size w W) := Lib.hid fun W hW => ⟨(HB.new w 24 t.cells).below hW, below_step hb0 hW⟩
  obtain ⟨b0, b1, b2, b3, b4, b5, b6, b7, b8⟩ := (HB.new w 24 t.cells).tok
  clear hg hby hs
  unfold Tok.val
  unfold Tok.cells at *
  go_enter Tryz.func3, Tryz.ntmps3
  go_wp2_with fail
  refine LG.out.mono ?_
  rintro e w1 ⟨big, rfl, -, hb1⟩
  have hB1 := (KEY0.out w1 hb1).2
  cases big
  · clear b0 b1 b2 b3 b4 b5 b6 b7 b8 LG
    have hz1 : w.heap.size < w1.heap.size := by have := hb1.size; simp at this; omega
    have hb2 : Below (w.alloc (.cells t.cells.toArray 24)).heap.size (w.alloc (.cells t.cells.toArray 24)) ((w1.alloc (.cells zeroBld.toArray 36)).alloc (.cells #[.pointer none, .pointer (some ⟨w1.heap.size, 0, none⟩)] 27)) := below_alloc (below_alloc hb1 _) _
    have KB : Hid (∀ W, Below ((w1.alloc (.cells zeroBld.toArray 36)).alloc (.cells #[.pointer none, .pointer (some ⟨w1.heap.size, 0, none⟩)] 27)).heap.size ((w1.alloc (.cells zeroBld.toArray 36)).alloc (.cells #[.pointer none, .pointer (some ⟨w1.heap.size, 0, none⟩)] 27)) W →
        ∀ k : Nat, k < 2 → ∃ v, W.cell? ⟨w1.heap.size + 1, k, none⟩ = some v ∧ NB W v) := Lib.hid fun W hW k hk => by
      have h1 : HB W (w1.heap.size + 1) 27 [.pointer none, .pointer (some ⟨w1.heap.size, 0, none⟩)] := (HB.at_ (w := w1.alloc (.cells zeroBld.toArray 36)) (by simp)).below hW
      have h2 : HB W w1.heap.size 36 zeroBld := ((HB.new w1 36 zeroBld).alloc _).below hW
      rcases k with _ | _ | k
      · exact ⟨.pointer none, h1.cell 0, .inl rfl⟩
      · exact ⟨.pointer (some ⟨w1.heap.size, 0, none⟩), h1.cell 1, .inr ⟨_, rfl, h2.cell 0⟩⟩
      · omega
    unfold zeroBld at KB hb2
    go_wp2_with fail
    generalize ((w1.alloc (.cells #[.pointer none, .pointer none, .pointer none, .int .i64 0, .int .i64 0, .slice none 0 0, .int .i64 0, .int .i64 0, .bool false, .bool false, .bool false, .string ⟨#[]⟩, .pointer none, .nilIface] 36)).alloc (.cells #[.pointer none, .pointer (some ⟨w1.heap.size, 0, none⟩)] 27)) = W0 at *
    have KEY : Hid (∀ W, Below W0.heap.size W0 W → HB W w.heap.size 24 t.cells ∧ Below w.heap.size w W) := Lib.hid fun W hW => KEY0.out W (below_step hb2 hW)
    clear hb1 hb2 hB1 KEY0
    generalize hgz : w1.heap.size + 1 = gz at *
    go_loopw [19] (fun s19 wr => ∃ k : Nat, k ≤ 2 ∧ s19 = .int .i64 k ∧ Below W0.heap.size W0 wr) (fun s19 _ => 2 - (intOf s19).toNat)
    case atStart => exact ⟨0, by omega, rfl, Below.refl _ _⟩
    case round =>
      obtain ⟨k, hk, rfl, hb⟩ := hrel
      by_cases hlt : k < 2
      · obtain ⟨v, hc, hnb⟩ := KB.out _ hb k hlt
        have h0 : (0 : Int) ≤ (k : Int) := by omega
        have h1 : (k : Int) < 2 := by omega
        have NBS : Hid (∀ W, Below wr.heap.size wr W → NB W v) := Lib.hid fun W hW => hnb.loc hW
        have TOK : Hid (∀ W, Below wr.heap.size wr W → W.cell? ⟨w.heap.size, 0, none⟩ = some (.int .i64 t.kind) ∧ W.cell? ⟨w.heap.size, 1, none⟩ = some (.string t.name) ∧ W.cell? ⟨w.heap.size, 2, none⟩ = some (.string t.text) ∧
            W.cell? ⟨w.heap.size, 3, none⟩ = some (.slice t.aA t.attrs.length t.acap) ∧ W.cell? ⟨w.heap.size, 4, none⟩ = some (.bool t.dup) ∧ W.cell? ⟨w.heap.size, 5, none⟩ = some (.bool t.self) ∧
            W.cell? ⟨w.heap.size, 6, none⟩ = some (.bool t.quirks) ∧ W.cell? ⟨w.heap.size, 7, none⟩ = some (.int .i64 t.frm) ∧ W.cell? ⟨w.heap.size, 8, none⟩ = some (.int .i64 t.to_) ∧ w.heap.size < W.heap.size) := Lib.hid fun W hW => by
          have h := (KEY.out W (below_step hb hW)).1
          obtain ⟨b0, b1, b2, b3, b4, b5, b6, b7, b8⟩ := h.tok
          exact ⟨b0, b1, b2, b3, b4, b5, b6, b7, b8, h.lt⟩
        have hB0 : Below wr.heap.size wr wr := Below.refl _ _
        obtain ⟨b0, b1, b2, b3, b4, b5, b6, b7, b8, hzz⟩ := TOK.out _ hB0
        clear hnb
        go_wp2_with (first
          | (go_at_call 8; refine (nSet (NBS.out _ (by assumption)) _).mono ?_; rintro e w2 ⟨rfl, rfl⟩)
          | (go_at_call 9; refine (nKeep (NBS.out _ (by assumption))).mono ?_; rintro e w2 ⟨rfl, rfl⟩)
          | (go_at_call 10; refine (nPush (NBS.out _ (by assumption)) _).mono ?_; rintro e w2 ⟨rfl, rfl⟩)
          | (go_at_call 11; refine (nPop (NBS.out _ (by assumption))).mono ?_; rintro e w2 ⟨rfl, rfl⟩)
          | (go_at_call 12; refine (nSetHead (NBS.out _ (by assumption)) _).mono ?_; rintro e w2 ⟨rfl, rfl⟩)
          | (go_at_call 13; refine (nSetForm (NBS.out _ (by assumption)) _).mono ?_; rintro e w2 ⟨rfl, rfl⟩)
          | (go_at_call 14; refine (nSetQuirks (NBS.out _ (by assumption)) _).mono ?_; rintro e w2 ⟨rfl, rfl⟩)
          | (go_at_call 15; refine (nFoster (NBS.out _ (by assumption)) _).mono ?_; rintro e w2 ⟨rfl, rfl⟩)
          | (go_at_call 16; refine (nSetPending (NBS.out _ (by assumption)) _).mono ?_; rintro e w2 ⟨rfl, rfl⟩)
          | (go_at_call 17; refine (nSkip (NBS.out _ (by assumption))).mono ?_; rintro e w2 ⟨rfl, rfl⟩)
          | (go_at_call 18; refine (nFail (NBS.out _ (by assumption)) _).mono ?_; rintro e w2 ⟨rfl, rfl⟩)
          | (go_at_call 19; refine (nPut (NBS.out _ (by assumption)) _ _).mono ?_; rintro e w2 ⟨rfl, rfl⟩)
          | (go_at_call 20; refine (nChars (NBS.out _ (by assumption)) _).mono ?_; rintro e w2 ⟨rfl, rfl⟩)
          | (go_at_call 21; refine (nComment (NBS.out _ hB0) t m).mono ?_; rintro e w2 ⟨rfl, hb2⟩; have hB1 := below_step hB0 hb2; obtain ⟨d0, d1, d2, d3, d4, d5, d6, d7, d8, dzz⟩ := TOK.out _ hB1)
          | (go_at_call 22; refine (nRaw (NBS.out _ hB1) t m).mono ?_; rintro e w3 ⟨rfl, hb3⟩; have hB2 := below_step hB1 hb3; obtain ⟨f0, f1, f2, f3, f4, f5, f6, f7, f8, fzz⟩ := TOK.out _ hB2)
          | (go_at_call 23; refine (nPlain (NBS.out _ (by assumption))).mono ?_; rintro e w2 ⟨rfl, rfl⟩)
          | (go_at_call 24; refine (nRebuild (NBS.out _ (by assumption))).mono ?_; rintro e w2 ⟨rfl, rfl⟩)
          | (go_at_call 25; refine (nCloseP (NBS.out _ (by assumption))).mono ?_; rintro e w2 ⟨rfl, rfl⟩)
          | (go_at_call 26; refine (nReset (NBS.out _ (by assumption))).mono ?_; rintro e w2 ⟨rfl, rfl⟩)
          | (go_at_call 27; refine (nHTML (NBS.out _ hB2) t).mono ?_; rintro e w4 ⟨rfl, hb4⟩; have hB3 := below_step hB2 hb4; obtain ⟨g0, g1, g2, g3, g4, g5, g6, g7, g8, gzz⟩ := TOK.out _ hB3; clear b0 b1 b2 b3 b4 b5 b6 b7 b8 d0 d1 d2 d3 d4 d5 d6 d7 d8 dzz f0 f1 f2 f3 f4 f5 f6 f7 f8 fzz hc)
          | (go_at_call 28; refine (nPlace (NBS.out _ (by assumption)) _).mono ?_; rintro e w2 ⟨rfl, rfl⟩)
          | (go_at_call 29; refine (nAsk (NBS.out _ (by assumption))).mono ?_; rintro e w2 ⟨rfl, rfl⟩)
          | (go_at_call 30; refine (nArena (NBS.out _ (by assumption))).mono ?_; rintro e w2 ⟨rfl, rfl⟩)
          | (go_at_call 31; refine (nStack (NBS.out _ (by assumption))).mono ?_; rintro e w2 ⟨rfl, rfl⟩)
          | (go_at_call 32; refine (nFormats (NBS.out _ (by assumption))).mono ?_; rintro e w2 ⟨rfl, rfl⟩)
          | (go_at_call 33; refine (nMode (NBS.out _ (by assumption))).mono ?_; rintro e w2 ⟨rfl, rfl⟩)
          | (go_at_call 34; refine (nBack (NBS.out _ (by assumption))).mono ?_; rintro e w2 ⟨rfl, rfl⟩)
          | (go_at_call 35; refine (nModes (NBS.out _ (by assumption))).mono ?_; rintro e w2 ⟨rfl, rfl⟩)
          | (go_at_call 36; refine (nHead (NBS.out _ (by assumption))).mono ?_; rintro e w2 ⟨rfl, rfl⟩)
          | (go_at_call 37; refine (nForm (NBS.out _ (by assumption))).mono ?_; rintro e w2 ⟨rfl, rfl⟩)
          | (go_at_call 38; refine (nQuirks (NBS.out _ (by assumption))).mono ?_; rintro e w2 ⟨rfl, rfl⟩)
          | (go_at_call 39; refine (nPending (NBS.out _ (by assumption))).mono ?_; rintro e w2 ⟨rfl, rfl⟩)
          | (go_at_call 40; refine (nSkips (NBS.out _ (by assumption))).mono ?_; rintro e w2 ⟨rfl, rfl⟩)
          | (go_at_call 41; refine (nErr (NBS.out _ (by assumption))).mono ?_; rintro e w2 ⟨rfl, rfl⟩)
          | (go_at_call 42; refine (nCurrent (NBS.out _ hB3)).mono ?_; rintro e w5 ⟨rfl, hb5⟩; have ff : (Instr.field 58 (ndVal ndZ none 0 none 0) 0).run Tryz.prog w5 = .ok (.int .i64 0) w5 := fld0 ndZ none 0 none 0 w5; have hB4 := below_step hB3 hb5; clear g0 g1 g2 g3 g4 g5 g6 g7 g8 gzz; obtain ⟨b0, b1, b2, b3, b4, b5, b6, b7, b8, hzz⟩ := TOK.out _ hB4)
          | (go_at_call 43; refine (nIs (NBS.out _ (below_alloc hB4 _)) (s := t.name) (Strs.mk_ [t.name] rfl)).mono ?_; rintro e w6 ⟨rfl, hb6⟩; have hB5 := below_step (below_alloc hB4 _) hb6; clear b0 b1 b2 b3 b4 b5 b6 b7 b8 hzz; obtain ⟨d0, d1, d2, d3, d4, d5, d6, d7, d8, dzz⟩ := TOK.out _ hB5)
          | (go_at_call 44; refine (nOpen (NBS.out _ hB5) _).mono ?_; rintro e w2 ⟨rfl, rfl⟩)
          | (go_at_call 45; refine (nInsert (NBS.out _ hB5) t 0).mono ?_; rintro e w7 ⟨rfl, hb7⟩; have hB6 := below_step hB5 hb7; clear d0 d1 d2 d3 d4 d5 d6 d7 d8 dzz; obtain ⟨b0, b1, b2, b3, b4, b5, b6, b7, b8, hzz⟩ := TOK.out _ hB6)
          | (go_at_call 46; refine (nOnly (NBS.out _ hB6) t).mono ?_; rintro e w8 ⟨rfl, hb8⟩; have hB7 := below_step hB6 hb8; clear b0 b1 b2 b3 b4 b5 b6 b7 b8 hzz; obtain ⟨d0, d1, d2, d3, d4, d5, d6, d7, d8, dzz⟩ := TOK.out _ hB7)
          | (go_at_call 47; refine (nImply (NBS.out _ hB7) _).mono ?_; rintro e w9 ⟨rfl, hb9⟩; have hB8 := below_step hB7 hb9))
        go_roundw
        case rel => exact ⟨k + 1, by omega, by go_num, below_step hb hB8⟩
        case measure => simp [intOf]; omega
      · obtain rfl : k = 2 := by omega
        have hBw := (KEY.out _ hb).2
        go_wp2_with fail
        refine (GROW.out _ hBw).mono ?_
        rintro e w2 ⟨rfl, c', h'⟩
        go_wp2_with fail
        go_ret
        exact ⟨rfl, c', h'⟩
  · go_wp2_with fail
    refine (GROW.out w1 hB1).mono ?_
    rintro e w2 ⟨rfl, c', h'⟩
    go_wp2_with fail
    go_ret
    exact ⟨rfl, c', h'⟩
end Go.Proofs.YtjmlkmlbhfkhbaaGreatDoor
