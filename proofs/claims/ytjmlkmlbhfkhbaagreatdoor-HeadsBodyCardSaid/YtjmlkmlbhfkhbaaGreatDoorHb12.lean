/-
  The arena's Tree (53): a row of all nodes.
  The builder's Ask (29) where something is asked; Current (42) and Is (43).
-/
import Derived.Test.YtjmlkmlbhfkhbaaGreatDoorHb10
import Derived.Test.YtjmlkmlbhfkhbaaGreatDoorHb11
set_option linter.unusedSimpArgs false
set_option linter.unusedVariables false
namespace Go.Proofs.YtjmlkmlbhfkhbaaGreatDoor
open Go Go.RowKit

/-- Kids that can be read, in a block of nobody's. -/
def KAt (w : World) (c : Col) (K : Option Addr) (l : List Int) : Prop := l ≠ [] → ∃ g, K = some ⟨g, 0, none⟩ ∧ (c g).1 = 0 ∧ ∀ (j : Nat) (k : Int), l[j]? = some k → w.cell? ⟨g, j, none⟩ = some (.int .i64 k)
theorem KAt.mv {S : Key → Prop} {w w' : World} {c c' : Col} {K : Option Addr} {l : List Int} (H : KAt w c K l) (hm : Mv S w c w' c') (hS : ∀ k, S k → k.1 ≠ 0) : KAt w' c' K l := by
  intro hl
  obtain ⟨g, h1, h2, h3⟩ := H hl
  have hlt : g < w.heap.size := by
    cases l with
    | nil => exact absurd rfl hl
    | cons x r => exact block_lt_of_cell (h3 0 x rfl)
  refine ⟨g, h1, by rw [hm.ext g hlt]; exact h2, fun j k hk => ?_⟩
  rw [World.cell?_of_block (w := w) (hm.blk g hlt (fun hs => hS _ hs h2))]
  exact h3 j k hk
theorem KAt.new {w w1 : World} {c : Col} {K : Option Addr} {l : List Int} {cap : Nat} (hg : Good w c) (h : RowNew w.heap.size w1 3 1 K l.length cap (intCells l)) : KAt w1 c K l := by
  intro hl
  have hn : 0 < l.length := List.length_pos_iff.2 hl
  obtain ⟨g, h1, h2, h3, h4, h5⟩ := h.at_ hn
  refine ⟨g, h1, hg g ?_, fun j k hk => h4 j _ (by unfold intCells; rw [List.getElem?_map, hk]; rfl)⟩
  unfold newCol at h2
  split at h2
  · assumption
  · cases h2

/-- A row of all nodes. -/
def TreeAt (w : World) (c : Col) (key : Key) (A : Option Addr) (cap : Nat) (ns : List Nd) : Prop :=
  ∃ cs : List NdC, cs.map (·.nd) = ns ∧ RowOk w c key 58 11 A cs.length cap (cs.flatMap NdC.cells) ∧ ∀ (i : Nat) (x : NdC), cs[i]? = some x → KAt w c x.kA x.nd.kids
theorem TreeAt.mv {S : Key → Prop} {w w' : World} {c c' : Col} {key : Key} {A : Option Addr} {cap : Nat} {ns : List Nd} (H : TreeAt w c key A cap ns) (hm : Mv S w c w' c') (hS : ∀ k, S k → k.1 ≠ 0) (hk : ¬ S key) : TreeAt w' c' key A cap ns := by
  obtain ⟨cs, h1, h2, h3⟩ := H
  exact ⟨cs, h1, h2.kp (hm.kp hk), fun i x hx => (h3 i x hx).mv hm hS⟩
/-- What is read of a node. -/
theorem TreeAt.node {w : World} {c : Col} {key : Key} {A : Option Addr} {cap : Nat} {ns : List Nd} (H : TreeAt w c key A cap ns) {i : Nat} {n : Nd} (hi : ns[i]? = some n) :
    ∃ (g : Nat) (x : NdC), A = some ⟨g, 0, none⟩ ∧ x.nd = n ∧ (∀ j, j < 11 → w.cell? ⟨g, i * 11 + j, none⟩ = x.cells[j]?) ∧ KAt w c x.kA n.kids := by
  obtain ⟨cs, h1, h2, h3⟩ := H
  rw [← h1, List.getElem?_map] at hi
  cases hx : cs[i]? with
  | none => rw [hx] at hi; cases hi
  | some x =>
    rw [hx] at hi
    obtain rfl := Option.some.inj hi
    have hlt := (List.getElem?_eq_some_iff.1 hx).1
    obtain ⟨g, e1, e2, e3, e4, e5⟩ := h2.at_ (by omega)
    refine ⟨g, x, e1, rfl, fun j hj => ?_, h3 i x hx⟩
    have hf := flat_at cs i j x hx hj
    have hxj : j < x.cells.length := by rw [NdC.cells_len]; exact hj
    rw [List.getElem?_eq_getElem hxj] at hf ⊢
    exact e4 _ _ hf
theorem TreeAt.len {w : World} {c : Col} {key : Key} {A : Option Addr} {cap : Nat} {ns : List Nd} (H : TreeAt w c key A cap ns) : ns.length ≤ cap := by
  obtain ⟨cs, h1, h2, h3⟩ := H
  rw [← h1, List.length_map]
  exact h2.le

set_option maxRecDepth 100000 in
set_option maxHeartbeats 4000000 in
theorem aTree {w : World} {c : Col} {h : Hd} {st : St} (H : BRep w c h st) {N : Nat} (hs : Sz N st) (hN : N ≤ 10000000) {key : Key} (hk : key.1 ≠ h.sd) (hk0 : key.1 ≠ 0) :
    Calls Tryz.prog 53 #[.pointer (some ⟨h.a, 0, none⟩)] w fun e w' => ∃ A cap c', e = .returned (.slice A st.ns.length cap) ∧ TreeAt w' c' key A cap st.ns ∧ Mv (· = key) w c w' c' := by
  have LEN := Lib.hid (by
    obtain ⟨X, HX⟩ := H
    have hl : X.cs.length = st.ns.length := by rw [← HX.ns]; simp
    have := aLen (HX.av (by have := hs.1; omega))
    rw [hl] at this
    exact this)
  have HK : Hid (∀ W C, Mv (· = key) w c W C → BRep W C h st) := Lib.hid fun W C hm => H.mv hm (fun p i e => hk (by rw [← e]))
  have HZ := Lib.hid hs
  have hlen := hs.1
  obtain ⟨i0, hi0, hz0, hz1, hz2⟩ := info_parts info58
  have HG := Lib.hid H.gd
  clear H hs
  go_enter Tryz.func53, Tryz.ntmps53
  go_wp2_with (go_at_call 95; refine LEN.out.mono ?_; rintro e w2 ⟨rfl, rfl⟩)
  go_loopw [3, 7] (fun a t wr => ∃ (cs : List NdC) (A : Option Addr) (cap : Nat) (c' : Col), a = .slice A cs.length cap ∧ t = .int .i64 cs.length ∧ cs.length ≤ st.ns.length ∧ Hid (cs.map (·.nd) = st.ns.take cs.length ∧ RowOk wr c' key 58 11 A cs.length cap (cs.flatMap NdC.cells) ∧ (∀ (i : Nat) (x : NdC), cs[i]? = some x → KAt wr c' x.kA x.nd.kids) ∧ Mv (· = key) w c wr c')) (fun _ t _ => st.ns.length - (intOf t).toNat)
  case atStart => exact ⟨[], none, 0, c, rfl, rfl, Nat.zero_le _, Lib.hid ⟨by simp, by exact RowOk.none_, fun i x hx => by simp at hx, Mv.refl _ _ _⟩⟩
  case round =>
    obtain ⟨cs, A, cap, c1, rfl, rfl, hle, hR⟩ := hrel
    by_cases hlt : cs.length < st.ns.length
    · have h1 : (cs.length : Int) < (st.ns.length : Int) := by omega
      obtain ⟨n, hn⟩ : ∃ n, st.ns[cs.length]? = some n := ⟨_, List.getElem?_eq_getElem hlt⟩
      have H1 := HK.out _ _ hR.out.2.2.2
      have ND := Lib.hid (aNodeB H1 HZ.out (by omega) hn)
      have hg1 := Lib.hid H1.gd
      have HNN := Lib.hid hn
      have hw : IntKind.i64.wrap ((cs.length : Int) + 1) = (cs.length : Int) + 1 := by have := wrap_small (L := cs.length + 1) (by omega); rwa [show (((cs.length + 1 : Nat) : Int)) = (cs.length : Int) + 1 by omega] at this
      clear hn H1 hlt
      go_wp2_with fail
      refine ND.out.mono ?_
      rintro e w2 ⟨A2, p1, K2, p2, rfl, hb2, -, hK⟩
      have KY : Hid (KAt w2 c1 K2 n.kids) := Lib.hid (KAt.new hg1.out hK)
      unfold ndVal
      clear hK
      go_wp2_with (at_builtin; refine wpList_append_row _ c1 key rfl _ _ 71 rfl 58 i0 _ 11 136 Tryz.underlying71 hi0 hz0 hz1 hz2 rfl (by decide) _ cs.length cap (cs.flatMap NdC.cells) rfl (by exact hR.out.2.1.kp (kp_below (below_alloc hb2 _))) _ 1 1 (NdC.cells { nd := n, aA := A2, acap := p1, kA := K2, kcap := p2 }) rfl (by rfl) (by simp) (by exact news_new _ _ _) (NdC.one _) (by unfold maxLen; omega) (by omega) ?_; intro A3 cp3 w3 c3 hrow3 hmv3)
      obtain ⟨y, hy⟩ : ∃ y : NdC, y = { nd := n, aA := A2, acap := p1, kA := K2, kcap := p2 } := ⟨_, rfl⟩
      have HY : Hid (y.nd = n ∧ y.kA = K2) := Lib.hid (by rw [hy]; exact ⟨rfl, rfl⟩)
      rw [← hy] at hrow3
      clear hy
      go_roundw
      case rel =>
        have m3 : Mv (· = key) wr c1 w3 c3 := (Mv.of_below (below_alloc hb2 _)).trans hmv3
        refine ⟨cs ++ [y], A3, cp3, c3, by simp, by simp, by simp; omega, Lib.hid ⟨?_, by simpa using hrow3, ?_, hR.out.2.2.2.trans m3⟩⟩
        · rw [List.map_append, hR.out.1, List.length_append, List.length_singleton, List.take_add_one, HNN.out, ← HY.out.1]
          rfl
        · intro i x hx
          by_cases hi : i < cs.length
          · rw [List.getElem?_append_left hi] at hx
            exact (hR.out.2.2.1 i x hx).mv m3 (fun k e => by rw [e]; exact hk0)
          · rw [List.getElem?_append_right (by omega)] at hx
            have h0 : i - cs.length = 0 := by
              have := (List.getElem?_eq_some_iff.1 hx).1
              simp at this; omega
            rw [h0] at hx
            obtain rfl : y = x := by simpa using hx
            rw [HY.out.1, HY.out.2]
            exact KY.out.mv ((Mv.of_below (below_alloc (Below.refl _ _) _)).trans hmv3) (fun k e => by rw [e]; exact hk0)
      case measure => simp [intOf]; omega
    · have h1 : ¬ (cs.length : Int) < (st.ns.length : Int) := by omega
      have hl : cs.length = st.ns.length := by omega
      have HL := Lib.hid hl
      go_wp2_with fail
      have T : TreeAt wr c1 key A cap st.ns := ⟨cs, by rw [hR.out.1, HL.out, List.take_length], hR.out.2.1, hR.out.2.2.1⟩
      go_ret
      first
        | exact ⟨A, cap, c1, rfl, T, hR.out.2.2.2⟩
        | exact ⟨A, cap, rfl, c1, T, hR.out.2.2.2⟩
end Go.Proofs.YtjmlkmlbhfkhbaaGreatDoor
namespace Go.Proofs.YtjmlkmlbhfkhbaaGreatDoor
open Go Go.RowKit

theorem clearAsk {w : World} {c : Col} {h : Hd} {x : Sh} {st : St} (H : BRepX w c h x st) :
    BRepX (w.setCell ⟨h.b, 12, none⟩ (.pointer none)) c h { x with kA := none } { st with ask := none } ∧ Mv (Pr h) w c (w.setCell ⟨h.b, 12, none⟩ (.pointer none)) c := by
  have k2 : ∀ p i, p ≠ 1 → Kp (h.sd, p, i) w c (w.setCell ⟨h.b, 12, none⟩ (.pointer none)) c := fun p i hp => kp_setCell (by rw [H.hb.1]; simp; omega) _
  have s2 : Mv (Pr h) w c (w.setCell ⟨h.b, 12, none⟩ (.pointer none)) c := Mv.setCell (show (c h.b).1 = h.sd by rw [H.hb.1]) _
  refine ⟨⟨s2.gd H.gd, H.sd, H.hb.set_ 12 _, H.ha.kp (k2 _ _ (by decide)), ?_, H.ns, H.hs.kp (k2 _ _ (by decide)), H.stk.kp (k2 _ _ (by decide)), H.hl.kp (k2 _ _ (by decide)), H.fmt.kp (k2 _ _ (by decide)), H.modes.kp (k2 _ _ (by decide)), rfl⟩, s2⟩
  exact ⟨H.nodes.row.kp (k2 _ _ (by decide)), fun i y hy => ⟨(H.nodes.each i y hy).1.kp (k2 _ _ (by decide)), (H.nodes.each i y hy).2.kp (k2 _ _ (by decide))⟩⟩

set_option maxRecDepth 100000 in
set_option maxHeartbeats 4000000 in
theorem bAsk {w : World} {c : Col} {h : Hd} {st : St} (H : BRep w c h st) {s : Int} {n : Str} (ha : st.ask = some (s, n)) :
    Calls Tryz.prog 29 #[.pointer (some ⟨h.b, 0, none⟩)] w (OkB h { st with ask := none } (.tuple #[.int .i64 s, .string n, .bool true]) w c) := by
  have N1 := Lib.hid (bNone H)
  obtain ⟨X, H⟩ := H
  have q := H.ask
  rw [ha] at q
  obtain ⟨g, hg, hb⟩ := q
  have c12 := H.bc.2.2.2.2.2.2.2.2.2.2.2.2.1
  have f12 := H.hb.frozen 12
  have hlb := H.hb.lt
  rw [hg] at c12
  have g0 := hb.cell 0
  have g1 := hb.cell 1
  have hb1 : Below w.heap.size w (w.alloc (.cells #[.int .i64 s, .string n] 92)) := below_alloc (Below.refl _ _) _
  have CA := Lib.hid (clearAsk (H.kp (fun p i => kp_below hb1) ((Mv.of_below (S := fun _ => False) hb1).gd H.gd)))
  have hcm := setCell_alloc w (.cells #[.int .i64 s, .string n] 92) ⟨h.b, 12, none⟩ (.pointer none) hlb
  rw [hcm] at CA
  have M1 : Hid (Mv (Pr h) w c (w.alloc (.cells #[.int .i64 s, .string n] 92)) c) := Lib.hid (Mv.of_below hb1)
  clear H ha hg hb hb1 hcm
  go_enter Tryz.func29, Tryz.ntmps29
  go_wp2_with (go_at_call 63; refine N1.out.mono ?_; rintro e w1 ⟨rfl, rfl⟩)
  go_region
  all_goals
    go_wp2_with fail
    refine bodyPost_ret (v := .tuple #[.int .i64 s, .string n, .bool true]) (by simp [results, Tryz.results29, go_sem]) rfl ?_
    exact ⟨rfl, c, (show BRep _ c h _ from ⟨_, CA.out.1⟩).loc (below_drew (Below.refl _ _)), (M1.out.trans CA.out.2).drew⟩

set_option maxRecDepth 100000 in
set_option maxHeartbeats 4000000 in
/-- The current node. -/
theorem bCurrent {w : World} {c : Col} {h : Hd} {st : St} (H : BRep w c h st) {N : Nat} (hs : Sz N st) (hN : N ≤ 10000000) (hl : st.stk.length ≤ 1000000) {i : Nat} {n : Nd} (ht : topOf st.stk = (i : Int)) (hi : st.ns[i]? = some n) :
    Calls Tryz.prog 42 #[.pointer (some ⟨h.b, 0, none⟩)] w fun e w' => ∃ A c1 K c2, e = .returned (ndVal n A c1 K c2) ∧ Below w.heap.size w w' := by
  have hb0 : Below w.heap.size w (w.alloc (.cells zeroNode.toArray 58)) := below_alloc (Below.refl _ _) _
  have N1 := Lib.hid (bNone (H.loc hb0))
  have TP := Lib.hid (fun (W : World) (hW : Below w.heap.size w W) => sTop ((H.loc hW).choose_spec.sv hl))
  rw [ht] at TP
  have ND := Lib.hid (fun (W : World) (hW : Below w.heap.size w W) => aNodeB (H.loc hW) hs (by omega) hi)
  have PT := Lib.hid (fun (W : World) (hW : Below w.heap.size w W) => (H.loc hW).ptrs)
  have B0 := Lib.hid (fun (W : World) (hW : Below (w.alloc (.cells zeroNode.toArray 58)).heap.size (w.alloc (.cells zeroNode.toArray 58)) W) => (HB.new w 58 zeroNode).below hW)
  clear H hs ht hi
  unfold zeroNode at *
  go_enter Tryz.func42, Tryz.ntmps42
  go_upto_region 3 with (go_at_call 63; refine N1.out.mono ?_; rintro e w1 ⟨rfl, rfl⟩)
  obtain ⟨q0, q1, q2⟩ := PT.out _ hb0
  go_region_law (first
    | (go_simp; go_at_call 85; (refine (TP.out _ (below_drew hb0)).mono ?_; rintro e w2 ⟨rfl, rfl⟩))
    | (go_simp; go_at_call 72; (refine (ND.out _ (below_drew hb0)).mono ?_; rintro e w2 ⟨A, c1, K, c2, rfl, hb2, -, -⟩; have HB2 := B0.out _ (below_step (below_drew (Below.refl _ _)) hb2); have f2 := HB2.frozen; have z2 := HB2.lt; obtain ⟨d0, d1, d2, d3, d4, d5, d6, d7, d8, d9, d10⟩ := (show HB w2 w.heap.size 58 (NdC.cells { nd := { kind := 0, name := ⟨#[]⟩, text := ⟨#[]⟩, space := 0, attrs := [], dup := false, parent := 0, content := 0, kids := [], frm := 0, to_ := 0 }, aA := none, acap := 0, kA := none, kcap := 0 }) from HB2).node; unfold ndVal)))
  all_goals
    go_wp2_with fail
    refine bodyPost_ret (v := ndVal n A c1 K c2) ?_ rfl ?_
    · simp [results, Tryz.results42, go_sem, ndVal, d0, d1, d2, d3, d4, d5, d6, d7, d8, d9, d10, z2]
    · refine ⟨⟨A, c1, K, c2, rfl⟩, ?_⟩
      have hB : Below w.heap.size w w2 := below_step (below_drew hb0) hb2
      repeat (refine Below.setCell ?_ (by simp) _)
      exact hB

set_option maxHeartbeats 1000000 in
/-- Is, of the current node. -/
theorem bIs {w : World} {c : Col} {h : Hd} {st : St} (H : BRep w c h st) {N : Nat} (hs : Sz N st) (hN : N ≤ 10000000) (hl : st.stk.length ≤ 1000000) {i : Nat} {n : Nd} (ht : topOf st.stk = (i : Int)) (hi : st.ns[i]? = some n) (g cap : Nat) (names : List Str) (hlen : names.length ≤ 1000) (hS : Strs w g names) :
    Calls Tryz.prog 43 #[.pointer (some ⟨h.b, 0, none⟩), .slice (some ⟨g, 0, none⟩) names.length cap] w fun e w' => e = .returned (.bool (htmlN n names)) ∧ Below w.heap.size w w' := by
  have CU := Lib.hid (bCurrent H hs hN hl ht hi)
  have HT := Lib.hid (fun (W : World) (hb : Below w.heap.size w W) A c1 K c2 => bHtml W n A c1 K c2 g cap names hlen (hS.below hb))
  clear H hs ht hi hS
  go_enter Tryz.func43, Tryz.ntmps43
  go_wp2_with fail
  refine CU.out.mono ?_
  rintro e w1 ⟨A, c1, K, c2, rfl, hb1⟩
  go_wp2_with fail
  refine (HT.out _ hb1 A c1 K c2).mono ?_
  rintro e w2 ⟨rfl, hb2⟩
  go_wp2_with fail
  go_ret
  exact ⟨rfl, below_step hb1 hb2⟩
end Go.Proofs.YtjmlkmlbhfkhbaaGreatDoor
