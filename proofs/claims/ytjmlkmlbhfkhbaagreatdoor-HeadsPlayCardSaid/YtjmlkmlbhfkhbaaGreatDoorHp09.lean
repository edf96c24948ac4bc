/-
  Push onto an empty list, Replace, the stack's Index of what is not open, Again.
  builder.New.
  The builder's lost and Rebuild for a list of one element that is not open.
-/
import Derived.Test.YtjmlkmlbhfkhbaaGreatDoorHp08
set_option linter.unusedSimpArgs false
set_option linter.unusedVariables false
namespace Go.Proofs.YtjmlkmlbhfkhbaaGreatDoor
open Go Go.RowKit

theorem BRep.fv {w : World} {c : Col} {h : Hd} {st : St} (H : BRep w c h st) (hl : st.fmt.length ≤ 1000000) : ∃ A cap, FV w h.l h.a A cap st.fmt := ⟨_, _, H.choose_spec.fv hl⟩
theorem BRep.sv {w : World} {c : Col} {h : Hd} {st : St} (H : BRep w c h st) (hl : st.stk.length ≤ 1000000) : ∃ A cap, SV w h.s h.a A cap st.stk := ⟨_, _, H.choose_spec.sv hl⟩

section
variable {w : World} {c : Col} {h : Hd} {st : St}

set_option maxRecDepth 100000 in
set_option maxHeartbeats 2000000 in
theorem fPush0 (H : BRep w c h st) {N : Nat} (hs : Sz N st) (hN : N ≤ 100000000) (hf : st.fmt = []) {i : Nat} {n : Nd} (hi : st.ns[i]? = some n) (hk : n.kind = 3) :
    Calls Tryz.prog 60 #[.pointer (some ⟨h.l, 0, none⟩), .int .i64 i] w (OkB h { st with fmt := [(i : Int)] } (.int .i64 0) w c) := by
  have MY := Lib.hid (fMay H hs hN (by rw [hf]; decide) hi hk)
  have ND := Lib.hid (fun (W : World) (hW : Below w.heap.size w W) => aNodeB (H.loc hW) hs hN hi)
  have FVs := Lib.hid (fun (W : World) (hW : Below w.heap.size w W) => (H.loc hW).fv (by rw [hf]; decide))
  have LY := Lib.hid (fun (W : World) (hW : Below w.heap.size w W) => fLay (H.loc hW) (by rw [hf]; decide) (i : Int))
  rw [hf] at LY FVs
  have e : ({ st with fmt := [] ++ [(i : Int)] } : St) = { st with fmt := [(i : Int)] } := rfl
  clear H hs hi hk
  go_enter Tryz.func60, Tryz.ntmps60
  go_wp2_with fail
  refine MY.out.mono ?_
  rintro e1 w1 ⟨rfl, hb1⟩
  obtain ⟨fA, fc, fv1⟩ := FVs.out _ hb1
  have v1 := fv1.1
  go_wp2_with fail
  refine (ND.out _ hb1).mono ?_
  rintro e2 w2 ⟨A, c1, K, c2, rfl, hb2, -, -⟩
  have hB := below_step hb1 hb2
  obtain ⟨fA2, fc2, fv2⟩ := FVs.out _ hB
  have v3 := fv2.2.1
  have L2 := Lib.hid (fLen fv2)
  have O2 := Lib.hid (fOpen0 fv2)
  unfold ndVal
  clear v1 fv1 fv2
  go_wp2_with (go_at_call 70; refine L2.out.mono ?_; rintro e3 w3 ⟨rfl, rfl⟩)
  go_loop [7, 8, 9] (fun a b t => a = .int .i64 0 ∧ b = .int .i64 0 ∧ t = .int .i64 (-1)) (fun _ _ _ => 0)
  case atStart => exact ⟨rfl, rfl, rfl⟩
  case round =>
    obtain ⟨rfl, rfl, rfl⟩ := hrel
    go_wp2_with (first
      | (go_at_call 108; refine O2.out.mono ?_; rintro e3 w3 ⟨rfl, rfl⟩)
      | (go_at_call 110; refine (LY.out _ hB).mono ?_; intro e3 w3 ho; obtain ⟨rfl, c3, H3, hm3⟩ := ho.after hB))
    go_ret
    exact ⟨rfl, c3, H3, hm3⟩

set_option maxHeartbeats 1000000 in
/-- Replace of the one entry of a list of one. -/
theorem fReplace0 (H : BRep w c h st) {N : Nat} (hs : Sz N st) (hN : N ≤ 100000000) {a : Int} (hf : st.fmt = [a]) {i : Nat} {n : Nd} (hi : st.ns[i]? = some n) (hk : n.kind = 3) :
    Calls Tryz.prog 73 #[.pointer (some ⟨h.l, 0, none⟩), .int .i64 0, .int .i64 i] w (OkB h { st with fmt := [(i : Int)] } (.int .i64 0) w c) := by
  have MY := Lib.hid (fMay H hs hN (by rw [hf]; simp) hi hk)
  have HH := Lib.hid H
  clear H hs hi hk
  go_enter Tryz.func73, Tryz.ntmps73
  go_wp2_with fail
  refine MY.out.mono ?_
  rintro e1 w1 ⟨rfl, hb1⟩
  obtain ⟨X, H1⟩ := HH.out.loc hb1
  have v1 : w1.cell? ⟨h.l, 1, none⟩ = some (.slice X.fA 1 X.fcap) := by
    have := H1.hl.cell 1
    rw [hf] at this
    exact this
  have hrow := H1.fmt
  rw [hf] at hrow
  obtain ⟨g, hA, hcg, hlt, hc, hfz⟩ := hrow.at_ (by simp [intCells])
  rw [hA] at v1 hrow
  have v2 := hc 0 _ rfl
  have v3 := hfz 0
  have hset := hrow.set_ (j := 0) (by simp [intCells]) (.int .i64 (i : Int))
  have hset' : RowOk (w1.setCell ⟨g, 0, none⟩ (.int .i64 (i : Int))) c (h.sd, 9, 0) 3 1 (some ⟨g, 0, none⟩) [(i : Int)].length X.fcap (intCells [(i : Int)]) := hset
  have hk' : ∀ q i', q ∉ [9] → Kp (h.sd, q, i') w1 c (w1.setCell ⟨g, 0, none⟩ (.int .i64 (i : Int))) c := fun q i' hq => kp_setCell (by rw [hcg]; simp at hq; simp; omega) _
  obtain ⟨o1, o2, o3, o4, o5, o6, o7, o8, -, o10, o11⟩ := H1.others [9] hk'
  have fin : BRep (w1.setCell ⟨g, 0, none⟩ (.int .i64 (i : Int))) c h { st with fmt := [(i : Int)] } := by
    refine ⟨X, ⟨fun g' hs' => H1.gd g' (by simpa [World.setCell] using hs'), H1.sd, o1 (by decide), o2 (by decide), ⟨o3 (by decide), fun i y hy => ⟨o4 (by decide) i y hy, o5 (by decide) i y hy⟩⟩, H1.ns, o6 (by decide), o7 (by decide), ?_, ?_, o10 (by decide), o11 (by decide)⟩⟩
    · have := o8 (by decide)
      rw [hf] at this
      exact this
    · rw [hA]; exact hset'
  have FIN := Lib.hid (And.intro fin (Mv.setCell (S := Pr h) (w := w1) (c := c) (a := ⟨g, 0, none⟩) (show (c g).1 = h.sd by rw [hcg]) (.int .i64 (i : Int))))
  clear fin hset hset' hk' o1 o2 o3 o4 o5 o6 o7 o8 o10 o11 hc hfz hrow hcg hA H1
  go_wp2_with fail
  go_ret
  exact ⟨rfl, c, FIN.out.1, (Mv.of_below hb1).trans FIN.out.2⟩

/-- The place of a node among the open ones. -/
def notOpen (stk : List OpE) (i : Int) : Prop := ∀ (k : Nat) (o : OpE), stk[k]? = some o → (o.node == i) = false

set_option maxHeartbeats 1000000 in
theorem sIndexNone {s a : Nat} {A : Option Addr} {cap : Nat} {stk : List OpE} (H : SV w s a A cap stk) (i : Int) (hno : notOpen stk i) :
    Calls Tryz.prog 120 #[.pointer (some ⟨s, 0, none⟩), .int .i64 i] w fun e w' => e = .returned (.int .i64 (-1)) ∧ w = w' := by
  have L := Lib.hid (sLen H)
  have a1 := H.2.1
  have HC := Lib.hid H.2.2.2.2.2
  have HN := Lib.hid hno
  have hsz := H.2.2.1
  clear H hno
  go_enter Tryz.func120, Tryz.ntmps120
  go_wp2_with (go_at_call 77; refine L.out.mono ?_; rintro e w1 ⟨rfl, rfl⟩)
  go_loop [5] (fun t => ∃ k : Nat, k ≤ stk.length ∧ t = .int .i64 ((k : Int) - 1)) (fun t => (intOf t + 1).toNat)
  case atStart => exact ⟨stk.length, Nat.le_refl _, rfl⟩
  case round =>
    obtain ⟨k, hk, rfl⟩ := hrel
    by_cases h0 : 0 < k
    · obtain ⟨k, rfl⟩ : ∃ m, k = m + 1 := ⟨k - 1, by omega⟩
      obtain ⟨g, rfl, hc⟩ := HC.out (by omega)
      obtain ⟨o, ho⟩ : ∃ o, stk[k]? = some o := ⟨stk[k], List.getElem?_eq_getElem (by omega)⟩
      obtain ⟨c0, -, -⟩ := hc k o ho
      have hne := HN.out k o ho
      rw [show ((k + 1 : Nat) : Int) - 1 = (k : Int) by omega]
      have h1 : (0 : Int) ≤ (k : Int) := by omega
      have h2 : (k : Int) < (stk.length : Int) := by omega
      clear hc ho
      go_wp2_with fail
      go_round
      case rel => exact ⟨k, by omega, rfl⟩
      case measure => simp [intOf]
    · obtain rfl : k = 0 := by omega
      go_wp2_with fail
      go_ret
      exact ⟨rfl, rfl⟩

/-- The tag of which an element was made. -/
def agTok (n : Nd) (A : Option Addr) (cap : Nat) : Tok := { kind := 2, name := n.name, text := ⟨#[]⟩, attrs := n.attrs, aA := A, acap := cap, dup := n.dup, self := false, quirks := false, frm := n.frm, to_ := n.to_ }

set_option maxHeartbeats 1000000 in
theorem bAgain (w : World) (n : Nd) (A : Option Addr) (c1 : Nat) (K : Option Addr) (c2 : Nat) :
    Calls Tryz.prog 71 #[ndVal n A c1 K c2] w fun e w' => e = .returned (agTok n A c1).val ∧ Below w.heap.size w w' := by
  unfold ndVal
  go_enter Tryz.func71, Tryz.ntmps71
  go_wp2_with fail
  refine bodyPost_ret (v := (agTok n A c1).val) ?_ rfl ?_
  · simp [results, Tryz.results71, go_sem, Tok.val, Tok.cells, agTok]
  · exact ⟨rfl, below_alloc (below_alloc (Below.refl _ _) _) _⟩
end

end Go.Proofs.YtjmlkmlbhfkhbaaGreatDoor
namespace Go.Proofs.YtjmlkmlbhfkhbaaGreatDoor
open Go Go.RowKit

def docNd : Nd := { kind := 1, name := ⟨#[]⟩, text := ⟨#[]⟩, space := 0, attrs := [], dup := false, parent := -1, content := 0, kids := [], frm := -1, to_ := -1 }
def st0 : St := { ns := [docNd], stk := [], fmt := [], mode := 0, back := 0, modes := [], head := -1, form := -1, quirks := false, foster := false, skip := false, pending := ⟨#[]⟩, ask := none }

theorem Wf.st0 : Wf 1 st0 := by
  refine ⟨⟨Nat.le_refl _, by decide, ?_⟩, ?_, ?_, ?_, ?_, ?_, rfl⟩
  · intro i n hn
    rcases i with _ | i
    · simp [Go.Proofs.YtjmlkmlbhfkhbaaGreatDoor.st0] at hn; subst hn; exact ⟨by decide, by decide, by decide⟩
    · simp [Go.Proofs.YtjmlkmlbhfkhbaaGreatDoor.st0] at hn
  · intro k o ho; simp [Go.Proofs.YtjmlkmlbhfkhbaaGreatDoor.st0] at ho
  · intro i n hn
    rcases i with _ | i
    · simp [Go.Proofs.YtjmlkmlbhfkhbaaGreatDoor.st0] at hn; subst hn; decide
    · simp [Go.Proofs.YtjmlkmlbhfkhbaaGreatDoor.st0] at hn
  · intro n hn
    simp [Go.Proofs.YtjmlkmlbhfkhbaaGreatDoor.st0] at hn; subst hn; rfl
  · intro i n hn hq
    rcases i with _ | i
    · simp [Go.Proofs.YtjmlkmlbhfkhbaaGreatDoor.st0] at hn; subst hn; exact absurd hq (by decide)
    · simp [Go.Proofs.YtjmlkmlbhfkhbaaGreatDoor.st0] at hn
  · intro i n hn k hk
    rcases i with _ | i
    · simp [Go.Proofs.YtjmlkmlbhfkhbaaGreatDoor.st0] at hn; subst hn; simp [docNd] at hk
    · simp [Go.Proofs.YtjmlkmlbhfkhbaaGreatDoor.st0] at hn

/-- The worlds of New, and the builder that lies there. -/
theorem newRep {w w1 : World} {c : Col} (hg : Good w c) {sd : Nat} (hsd : sd ≠ 0) (hb : Below w.heap.size w w1) {A : Option Addr} {cp : Nat} (hr : RowNew w.heap.size w1 84 2 A 0 cp []) :
    ∃ c', BRep (((((w1.alloc (.cells (NdC.cells { nd := docNd, aA := A, acap := cp, kA := none, kcap := 0 }).toArray 58)).alloc (.cells [.slice (some ⟨w1.heap.size, 0, none⟩) 1 1].toArray 123)).alloc
      (.cells [.pointer (some ⟨w1.heap.size + 1, 0, none⟩), .slice none 0 0].toArray 121)).alloc (.cells [.pointer (some ⟨w1.heap.size + 1, 0, none⟩), .slice none 0 0].toArray 117)).alloc
      (.cells (bCells ⟨sd, w1.heap.size + 4, w1.heap.size + 1, w1.heap.size + 2, w1.heap.size + 3⟩ ⟨w1.heap.size, 1, [], none, 0, none, 0, none, 0, none⟩ st0).toArray 36)) c' ⟨sd, w1.heap.size + 4, w1.heap.size + 1, w1.heap.size + 2, w1.heap.size + 3⟩ st0 ∧
      Mv (fun _ => False) w c (((((w1.alloc (.cells (NdC.cells { nd := docNd, aA := A, acap := cp, kA := none, kcap := 0 }).toArray 58)).alloc (.cells [.slice (some ⟨w1.heap.size, 0, none⟩) 1 1].toArray 123)).alloc
      (.cells [.pointer (some ⟨w1.heap.size + 1, 0, none⟩), .slice none 0 0].toArray 121)).alloc (.cells [.pointer (some ⟨w1.heap.size + 1, 0, none⟩), .slice none 0 0].toArray 117)).alloc
      (.cells (bCells ⟨sd, w1.heap.size + 4, w1.heap.size + 1, w1.heap.size + 2, w1.heap.size + 3⟩ ⟨w1.heap.size, 1, [], none, 0, none, 0, none, 0, none⟩ st0).toArray 36)) c' := by
  have hz := hb.size
  obtain ⟨c1, hr1, hc1⟩ := hr.own c (sd, 5, 0)
  have hm1 : Mv (fun _ => False) w c w1 c1 := by
    refine ⟨hb.os, hb.tape, hb.output, hb.size, fun g hgg => ?_, fun g hgg _ => hb.block g hgg, fun _ g hgg => ?_⟩
    · rcases hc1 with rfl | ⟨g0, h1, h2, rfl, -⟩
      · rfl
      · exact paint_other _ _ (by omega)
    · rcases hc1 with rfl | ⟨g0, h1, h2, rfl, -⟩
      · exact hg g (by omega)
      · rw [paint_other _ _ (by omega)]; exact hg g (by omega)
  -- block by block
  have s1 := Mv.alloc_paint (S := fun _ => False) w1 c1 (.cells (NdC.cells { nd := docNd, aA := A, acap := cp, kA := none, kcap := 0 }).toArray 58) (sd, 3, 0)
  have r1 := hr1.kp (kp_alloc_paint w1 c1 (.cells (NdC.cells { nd := docNd, aA := A, acap := cp, kA := none, kcap := 0 }).toArray 58) (sd, 5, 0) (sd, 3, 0))
  have b1 := Blk.new w1 c1 (sd, 3, 0) 58 (NdC.cells { nd := docNd, aA := A, acap := cp, kA := none, kcap := 0 })
  generalize hw2 : w1.alloc (.cells (NdC.cells { nd := docNd, aA := A, acap := cp, kA := none, kcap := 0 }).toArray 58) = w2 at *
  have z2 : w2.heap.size = w1.heap.size + 1 := by rw [← hw2]; simp
  generalize paint c1 w1.heap.size (sd, 3, 0) = c2 at *
  have s2 := Mv.alloc_paint (S := fun _ => False) w2 c2 (.cells [.slice (some ⟨w1.heap.size, 0, none⟩) 1 1].toArray 123) (sd, 2, 0)
  have r2 := r1.kp (kp_alloc_paint w2 c2 (.cells [.slice (some ⟨w1.heap.size, 0, none⟩) 1 1].toArray 123) (sd, 5, 0) (sd, 2, 0))
  have b12 := b1.kp (kp_alloc_paint w2 c2 (.cells [.slice (some ⟨w1.heap.size, 0, none⟩) 1 1].toArray 123) _ (sd, 2, 0))
  have b2 := Blk.new w2 c2 (sd, 2, 0) 123 [.slice (some ⟨w1.heap.size, 0, none⟩) 1 1]
  generalize hw3 : w2.alloc (.cells [.slice (some ⟨w1.heap.size, 0, none⟩) 1 1].toArray 123) = w3 at *
  have z3 : w3.heap.size = w1.heap.size + 2 := by rw [← hw3]; simp [z2]
  generalize paint c2 w2.heap.size (sd, 2, 0) = c3 at *
  have s3 := Mv.alloc_paint (S := fun _ => False) w3 c3 (.cells [.pointer (some ⟨w1.heap.size + 1, 0, none⟩), .slice none 0 0].toArray 121) (sd, 6, 0)
  have r3 := r2.kp (kp_alloc_paint w3 c3 (.cells [.pointer (some ⟨w1.heap.size + 1, 0, none⟩), .slice none 0 0].toArray 121) (sd, 5, 0) (sd, 6, 0))
  have b13 := b12.kp (kp_alloc_paint w3 c3 (.cells [.pointer (some ⟨w1.heap.size + 1, 0, none⟩), .slice none 0 0].toArray 121) _ (sd, 6, 0))
  have b23 := b2.kp (kp_alloc_paint w3 c3 (.cells [.pointer (some ⟨w1.heap.size + 1, 0, none⟩), .slice none 0 0].toArray 121) _ (sd, 6, 0))
  have b3 := Blk.new w3 c3 (sd, 6, 0) 121 [.pointer (some ⟨w1.heap.size + 1, 0, none⟩), .slice none 0 0]
  generalize hw4 : w3.alloc (.cells [.pointer (some ⟨w1.heap.size + 1, 0, none⟩), .slice none 0 0].toArray 121) = w4 at *
  have z4 : w4.heap.size = w1.heap.size + 3 := by rw [← hw4]; simp [z3]
  generalize paint c3 w3.heap.size (sd, 6, 0) = c4 at *
  have s4 := Mv.alloc_paint (S := fun _ => False) w4 c4 (.cells [.pointer (some ⟨w1.heap.size + 1, 0, none⟩), .slice none 0 0].toArray 117) (sd, 8, 0)
  have r4 := r3.kp (kp_alloc_paint w4 c4 (.cells [.pointer (some ⟨w1.heap.size + 1, 0, none⟩), .slice none 0 0].toArray 117) (sd, 5, 0) (sd, 8, 0))
  have b14 := b13.kp (kp_alloc_paint w4 c4 (.cells [.pointer (some ⟨w1.heap.size + 1, 0, none⟩), .slice none 0 0].toArray 117) _ (sd, 8, 0))
  have b24 := b23.kp (kp_alloc_paint w4 c4 (.cells [.pointer (some ⟨w1.heap.size + 1, 0, none⟩), .slice none 0 0].toArray 117) _ (sd, 8, 0))
  have b34 := b3.kp (kp_alloc_paint w4 c4 (.cells [.pointer (some ⟨w1.heap.size + 1, 0, none⟩), .slice none 0 0].toArray 117) _ (sd, 8, 0))
  have b4 := Blk.new w4 c4 (sd, 8, 0) 117 [.pointer (some ⟨w1.heap.size + 1, 0, none⟩), .slice none 0 0]
  generalize hw5 : w4.alloc (.cells [.pointer (some ⟨w1.heap.size + 1, 0, none⟩), .slice none 0 0].toArray 117) = w5 at *
  have z5 : w5.heap.size = w1.heap.size + 4 := by rw [← hw5]; simp [z4]
  generalize paint c4 w4.heap.size (sd, 8, 0) = c5 at *
  generalize hbc : bCells ⟨sd, w1.heap.size + 4, w1.heap.size + 1, w1.heap.size + 2, w1.heap.size + 3⟩ ⟨w1.heap.size, 1, [], none, 0, none, 0, none, 0, none⟩ st0 = bc
  have s5 := Mv.alloc_paint (S := fun _ => False) w5 c5 (.cells bc.toArray 36) (sd, 1, 0)
  have r5 := r4.kp (kp_alloc_paint w5 c5 (.cells bc.toArray 36) (sd, 5, 0) (sd, 1, 0))
  have b15 := b14.kp (kp_alloc_paint w5 c5 (.cells bc.toArray 36) _ (sd, 1, 0))
  have b25 := b24.kp (kp_alloc_paint w5 c5 (.cells bc.toArray 36) _ (sd, 1, 0))
  have b35 := b34.kp (kp_alloc_paint w5 c5 (.cells bc.toArray 36) _ (sd, 1, 0))
  have b45 := b4.kp (kp_alloc_paint w5 c5 (.cells bc.toArray 36) _ (sd, 1, 0))
  have b5 := Blk.new w5 c5 (sd, 1, 0) 36 bc
  have hm := hm1.trans (s1.trans (s2.trans (s3.trans (s4.trans s5))))
  refine ⟨_, ⟨⟨w1.heap.size, 1, [{ nd := docNd, aA := A, acap := cp, kA := none, kcap := 0 }], none, 0, none, 0, none, 0, none⟩, ⟨hm.gd hg, hsd, ?_, ?_, ⟨?_, ?_⟩, rfl, ?_, RowOk.none_, ?_, RowOk.none_, RowOk.none_, rfl⟩⟩, hm⟩
  · rw [z5] at b5
    rw [← hbc] at b5 ⊢
    rw [z5]
    exact b5
  · rw [z2] at b25; exact b25
  · refine ⟨rfl, .inr ⟨w1.heap.size, _, rfl, b15.1, b15.2, Nat.le_refl _, by simp [maxLen], rfl, rfl⟩⟩
  · intro i y hy
    rcases i with _ | i
    · simp at hy
      subst hy
      exact ⟨RowOk.none_, r5⟩
    · simp at hy
  · rw [z3] at b35; exact b35
  · rw [z4] at b45; exact b45

set_option maxRecDepth 100000 in
set_option maxHeartbeats 2000000 in
theorem bNew {w : World} {c : Col} (hg : Good w c) {sd : Nat} (hsd : sd ≠ 0) :
    Calls Tryz.prog 50 #[] w fun e w' => ∃ c' h, h.sd = sd ∧ e = .returned (.pointer (some ⟨h.b, 0, none⟩)) ∧ BRep w' c' h st0 ∧ Mv (fun _ => False) w c w' c' := by
  go_enter Tryz.func50, Tryz.ntmps50
  go_wp2_with (first
    | (go_at_call 92; go_in)
    | (go_at_call 93; go_in)
    | (go_at_call 94; go_in)
    | (go_at_call 95; go_in)
    | (go_at_call 119; refine (aBareL _ { nd := { docNd with parent := 0 }, aA := none, acap := 0, kA := none, kcap := 0 } (by decide) ⟨fun _ => rfl, fun _ e => by cases e⟩).mono ?_; rintro e w1 ⟨A1, cp1, rfl, hb1, hr1⟩))
  go_ret
  obtain ⟨c', hB, hM⟩ := newRep (w := w) hg hsd hb1 hr1
  exact ⟨c', _, rfl, rfl, hB, hM⟩
end Go.Proofs.YtjmlkmlbhfkhbaaGreatDoor
namespace Go.Proofs.YtjmlkmlbhfkhbaaGreatDoor
open Go Go.RowKit

theorem bdrewN (w : World) (m : Nat) : Below w.heap.size w (w.drewN m) := ⟨rfl, rfl, rfl, Nat.le_refl _, fun _ _ => rfl⟩
/-- Where a builder's parts lie. -/
theorem BRep.ptrs {w : World} {c : Col} {h : Hd} {st : St} (H : BRep w c h st) : w.cell? ⟨h.b, 0, none⟩ = some (.pointer (some ⟨h.a, 0, none⟩)) ∧ w.cell? ⟨h.b, 1, none⟩ = some (.pointer (some ⟨h.s, 0, none⟩)) ∧ w.cell? ⟨h.b, 2, none⟩ = some (.pointer (some ⟨h.l, 0, none⟩)) := by
  obtain ⟨b0, b1, b2, -⟩ := H.choose_spec.bc
  exact ⟨b0, b1, b2⟩

section
variable {w : World} {c : Col} {h : Hd} {st : St}

set_option maxRecDepth 100000 in
set_option maxHeartbeats 2000000 in
theorem bLost1 (H : BRep w c h st) {i : Nat} (hf : st.fmt = [(i : Int)]) (hl : st.stk.length ≤ 1000000) (hno : notOpen st.stk i) :
    Calls Tryz.prog 69 #[.pointer (some ⟨h.b, 0, none⟩)] w fun e w' => e = .returned (.int .i64 0) ∧ Below w.heap.size w w' := by
  have FVs := Lib.hid (fun (W : World) (hW : Below w.heap.size w W) => (H.loc hW).fv (by rw [hf]; simp))
  rw [hf] at FVs
  have SVs := Lib.hid (fun (W : World) (hW : Below w.heap.size w W) => (H.loc hW).sv hl)
  have NO := Lib.hid hno
  obtain ⟨b0, b1, b2⟩ := H.ptrs
  have BC := Lib.hid (fun (W : World) (hW : Below w.heap.size w W) => (H.loc hW).ptrs)
  obtain ⟨fA, fc, F0⟩ := FVs.out _ (Below.refl _ _)
  have L0 := Lib.hid (fLen F0)
  have A0 := Lib.hid (fAt F0 (k := 0) (n := (i : Int)) rfl)
  have hi1 : ((i : Int) == -1) = false := by
    have : (i : Int) ≠ -1 := by omega
    simp [this]
  rw [hi1] at A0
  clear H hf hno F0
  go_enter Tryz.func69, Tryz.ntmps69
  go_wp2_with (go_at_call 70; refine L0.out.mono ?_; rintro e w1 ⟨rfl, rfl⟩)
  go_loopw [3] (fun t wr => (t = .int .i64 1 ∧ wr = w) ∨ (t = .int .i64 0 ∧ Below w.heap.size w wr)) (fun t _ => (intOf t).toNat)
  case atStart => exact .inl ⟨rfl, rfl⟩
  case round =>
    rcases hrel with ⟨rfl, rfl⟩ | ⟨rfl, hb⟩
    · go_wp2_with (go_at_call 62; refine A0.out.mono ?_; rintro e w1 ⟨rfl, m, rfl⟩)
      have hB := bdrewN wr m
      obtain ⟨sA, sc, S1⟩ := SVs.out _ hB
      have IX := Lib.hid (sIndexNone S1 (i : Int) NO.out)
      obtain ⟨q0, q1, q2⟩ := BC.out _ hB
      clear S1
      go_wp2_with (go_at_call 120; refine IX.out.mono ?_; rintro e w1 ⟨rfl, rfl⟩)
      go_round
      case rel => exact .inr ⟨rfl, hB⟩
      case measure => decide
    · go_wp2_with fail
      go_ret
      exact ⟨rfl, hb⟩

/-- The tag of an open formatting element, of its node. -/
def rebM (st : St) (n : Nd) : St := { insM st (agTok n none 0) 0 with fmt := [(st.ns.length : Int)] }

set_option maxRecDepth 100000 in
set_option maxHeartbeats 4000000 in
theorem bRebuild1 (H : BRep w c h st) {N : Nat} (wf : Wf N st) (hN : N ≤ 1000000) {i : Nat} {n : Nd} (hf : st.fmt = [(i : Int)]) (hl : st.stk.length < 512) (hno : notOpen st.stk i)
    (hi : st.ns[i]? = some n) (hk : n.kind = 3) (hta : n.attrs.length ≤ 1000) :
    Calls Tryz.prog 24 #[.pointer (some ⟨h.b, 0, none⟩)] w (OkB h (rebM st n) (.tuple #[]) w c) := by
  have N1 := Lib.hid (bNone H)
  have LO := Lib.hid (bLost1 H hf (by omega) hno)
  have FVs := Lib.hid (fun (W : World) (hW : Below w.heap.size w W) => (H.loc hW).fv (by rw [hf]; simp))
  have PT := Lib.hid (fun (W : World) (hW : Below w.heap.size w W) => (H.loc hW).ptrs)
  rw [hf] at FVs
  have ND := Lib.hid (fun (W : World) (hW : Below w.heap.size w W) => aNodeB (H.loc hW) wf.sz (by omega) hi)
  have IN := Lib.hid (fun (W : World) (hW : Below w.heap.size w W) (A : Option Addr) (c1 : Nat) (hs : Src W A (attrCells n.attrs)) => bInsert (H.loc hW) wf (by omega) hl (agTok n A c1) 0 hs hta)
  have e0 : ∀ A c1, insM st (agTok n A c1) 0 = insM st (agTok n none 0) 0 := fun A c1 => rfl
  have W2 := wf.ins (agTok n none 0) 0 hta
  obtain ⟨m, hm, hmk⟩ : ∃ m, (insM st (agTok n none 0) 0).ns[st.ns.length]? = some m ∧ m.kind = 3 := by
    obtain ⟨k, n1⟩ := addN_new st.ns (elC (agTok n none 0) 0).nd
    obtain ⟨m, hm⟩ := hangN_some (p := plIx st.ns (tgtIx st)) (i := st.ns.length) n1
    have hpl : plIx st.ns (tgtIx st) < st.ns.length := by
      obtain ⟨n, t1, t2, t3⟩ := wf.tgt
      obtain ⟨np, p1, p2, p3⟩ := wf.place t1 t3
      exact (List.getElem?_eq_some_iff.1 p1).1
    obtain ⟨n', hn', f1, -⟩ := hangN_cases (by omega) hm
    rw [n1] at hn'
    obtain rfl := Option.some.inj hn'
    exact ⟨m, hm, by rw [f1]; rfl⟩
  have RP := Lib.hid (fun (W : World) (c2 : Col) (H2 : BRep W c2 h (insM st (agTok n none 0) 0)) => fReplace0 H2 W2.sz (by omega) (a := (i : Int)) hf hm hmk)
  have hi1 : ((i : Int) == -1) = false := by
    have : (i : Int) ≠ -1 := by omega
    simp [this]
  have h0 : (0 : Int) ≤ (st.ns.length : Int) := by omega
  obtain ⟨b0, b1, b2⟩ := H.ptrs
  clear H wf hf hno hi hm W2
  go_enter Tryz.func24, Tryz.ntmps24
  go_wp2_with (first
    | (go_at_call 63; refine N1.out.mono ?_; rintro e w1 ⟨rfl, rfl⟩)
    | (go_at_call 69; refine LO.out.mono ?_; rintro e w1 ⟨rfl, hb1⟩))
  clear b0 b1 b2
  go_loopw [2] (fun t wr => (t = .int .i64 0 ∧ Below w.heap.size w wr) ∨ (t = .int .i64 1 ∧ ∃ c', BRep wr c' h (rebM st n) ∧ Mv (Pr h) w c wr c')) (fun t _ => 1 - (intOf t).toNat)
  case atStart => exact .inl ⟨rfl, hb1⟩
  case round =>
    rcases hrel with ⟨rfl, hb⟩ | ⟨rfl, c3, H3, hm3⟩
    · obtain ⟨b0, b1, b2⟩ := PT.out _ hb
      obtain ⟨fA, fc, F0⟩ := FVs.out _ hb
      have L0 := Lib.hid (fLen F0)
      have A0 := Lib.hid (fAt F0 (k := 0) (n := (i : Int)) rfl)
      rw [hi1] at A0
      clear F0
      go_wp2_with (first
        | (go_at_call 70; refine L0.out.mono ?_; rintro e w1 ⟨rfl, rfl⟩)
        | (go_at_call 62; refine A0.out.mono ?_; rintro e w1 ⟨rfl, m, rfl⟩; have hB := below_step hb (bdrewN wr m); obtain ⟨q0, q1, q2⟩ := PT.out _ hB)
        | (go_at_call 72; refine (ND.out _ hB).mono ?_; rintro e w2 ⟨A, c1, K, c2, rfl, hb2, hr2, -⟩; have hB2 := below_step hB hb2)
        | (go_at_call 71; refine (bAgain _ n A c1 K c2).mono ?_; rintro e w3 ⟨rfl, hb3⟩; have hs3 := hr2.src.loc hb3; have hB3 := below_step hB2 hb3)
        | (go_at_call 45; refine (IN.out _ hB3 A c1 hs3).mono ?_; intro e w4 ho; obtain ⟨rfl, c4, H4, hm4⟩ := ho.after hB3; rw [e0] at H4; obtain ⟨r0, r1, r2⟩ := H4.ptrs)
        | (go_at_call 73; refine (RP.out _ _ H4).mono ?_; rintro e w5 ⟨rfl, c5, H5, hm5⟩))
      go_round
      case rel => exact .inr ⟨rfl, c5, H5, hm4.trans hm5⟩
      case measure => decide
    · obtain ⟨b0, b1, b2⟩ := H3.ptrs
      obtain ⟨fA, fc, F0⟩ := H3.fv (by simp [rebM])
      have L0 := Lib.hid (fLen F0)
      clear F0
      have HM := Lib.hid (And.intro H3 hm3)
      clear H3 hm3
      go_wp2_with (go_at_call 70; refine L0.out.mono ?_; rintro e w1 ⟨rfl, rfl⟩)
      go_end0
      exact ⟨rfl, c3, HM.out.1, HM.out.2⟩
end

end Go.Proofs.YtjmlkmlbhfkhbaaGreatDoor
