/-
  Push onto an empty list, Replace, the stack's Index of what is not open, Again.
-/
import Derived.Test.YtjmlkmlbhfkhbaaGreatDoorFm1
namespace Go.Proofs.YtjmlkmlbhfkhbaaGreatDoor
open Go Go.RowKit

theorem BRep.fv {w : World} {c : Col} {h : Hd} {st : St} (H : BRep w c h st) (hl : st.fmt.length ≤ 1000000) : ∃ A cap, FV w h.l h.a A cap st.fmt := ⟨_, _, H.choose_spec.fv hl⟩
theorem BRep.sv {w : World} {c : Col} {h : Hd} {st : St} (H : BRep w c h st) (hl : st.stk.length ≤ 1000000) : ∃ A cap, SV w h.s h.a A cap st.stk := ⟨_, _, H.choose_spec.sv hl⟩

section
variable {w : World} {c : Col} {h : Hd} {st : St}

set_option maxRecDepth 100000 in
set_option maxHeartbeats 2000000 in
theorem fPush0 (H : BRep w c h st) {N : Nat} (hs : Sz N st) (hN : N ≤ 100000000) (hf : st.fmt = []) {i : Nat} {n : Nd} (hi : st.ns[i]? = some n) (hk : n.kind = 3) :
    Calls Tryz.prog 60 #[.pointer (some ⟨h.l, 0, none⟩), .int .i64 i] w (OkB h { st with fmt := [(i : Int)] } (.int .i64 0) w c) := by
  have MY := Lib.hid (fMay H hs hN (by rw [hf]; decide) hi hk)
  have ND := Lib.hid (fun (W : World) (hW : Below w.heap.size w W) => aNodeB (H.loc hW) hs hN hi)
  have FVs := Lib.hid (fun (W : World) (hW : Below w.heap.size w W) => (H.loc hW).fv (by rw [hf]; decide))
  have LY := Lib.hid (fun (W : World) (hW : Below w.heap.size w W) => fLay (H.loc hW) (by rw [hf]; decide) (i : Int))
  rw [hf] at LY FVs
  have e : ({ st with fmt := [] ++ [(i : Int)] } : St) = { st with fmt := [(i : Int)] } := rfl
  clear H hs hi hk
  go_enter Tryz.func60, Tryz.ntmps60
  go_wp2_with fail
  refine MY.out.mono ?_
  rintro e1 w1 ⟨rfl, hb1⟩
  obtain ⟨fA, fc, fv1⟩ := FVs.out _ hb1
  have v1 := fv1.1
  go_wp2_with fail
  refine (ND.out _ hb1).mono ?_
  rintro e2 w2 ⟨A, c1, K, c2, rfl, hb2, -, -⟩
  have hB := below_step hb1 hb2
  obtain ⟨fA2, fc2, fv2⟩ := FVs.out _ hB
  have v3 := fv2.2.1
  have L2 := Lib.hid (fLen fv2)
  have O2 := Lib.hid (fOpen0 fv2)
  unfold ndVal
  clear v1 fv1 fv2
  go_wp2_with (go_at_call 70; refine L2.out.mono ?_; rintro e3 w3 ⟨rfl, rfl⟩)
  go_loop [7, 8, 9] (fun a b t => a = .int .i64 0 ∧ b = .int .i64 0 ∧ t = .int .i64 (-1)) (fun _ _ _ => 0)
  case atStart => exact ⟨rfl, rfl, rfl⟩
  case round =>
    obtain ⟨rfl, rfl, rfl⟩ := hrel
    go_wp2_with (first
      | (go_at_call 108; refine O2.out.mono ?_; rintro e3 w3 ⟨rfl, rfl⟩)
      | (go_at_call 110; refine (LY.out _ hB).mono ?_; intro e3 w3 ho; obtain ⟨rfl, c3, H3, hm3⟩ := ho.after hB))
    go_ret
    exact ⟨rfl, c3, H3, hm3⟩

set_option maxHeartbeats 1000000 in
/-- Replace of the one entry of a list of one. -/
theorem fReplace0 (H : BRep w c h st) {N : Nat} (hs : Sz N st) (hN : N ≤ 100000000) {a : Int} (hf : st.fmt = [a]) {i : Nat} {n : Nd} (hi : st.ns[i]? = some n) (hk : n.kind = 3) :
    Calls Tryz.prog 73 #[.pointer (some ⟨h.l, 0, none⟩), .int .i64 0, .int .i64 i] w (OkB h { st with fmt := [(i : Int)] } (.int .i64 0) w c) := by
  have MY := Lib.hid (fMay H hs hN (by rw [hf]; simp) hi hk)
  have HH := Lib.hid H
  clear H hs hi hk
  go_enter Tryz.func73, Tryz.ntmps73
  go_wp2_with fail
  refine MY.out.mono ?_
  rintro e1 w1 ⟨rfl, hb1⟩
  obtain ⟨X, H1⟩ := HH.out.loc hb1
  have v1 : w1.cell? ⟨h.l, 1, none⟩ = some (.slice X.fA 1 X.fcap) := by
    have := H1.hl.cell 1
    rw [hf] at this
    exact this
  have hrow := H1.fmt
  rw [hf] at hrow
  obtain ⟨g, hA, hcg, hlt, hc, hfz⟩ := hrow.at_ (by simp [intCells])
  rw [hA] at v1 hrow
  have v2 := hc 0 _ rfl
  have v3 := hfz 0
  have hset := hrow.set_ (j := 0) (by simp [intCells]) (.int .i64 (i : Int))
  have hset' : RowOk (w1.setCell ⟨g, 0, none⟩ (.int .i64 (i : Int))) c (h.sd, 9, 0) 3 1 (some ⟨g, 0, none⟩) [(i : Int)].length X.fcap (intCells [(i : Int)]) := hset
  have hk' : ∀ q i', q ∉ [9] → Kp (h.sd, q, i') w1 c (w1.setCell ⟨g, 0, none⟩ (.int .i64 (i : Int))) c := fun q i' hq => kp_setCell (by rw [hcg]; simp at hq; simp; omega) _
  obtain ⟨o1, o2, o3, o4, o5, o6, o7, o8, -, o10, o11⟩ := H1.others [9] hk'
  have fin : BRep (w1.setCell ⟨g, 0, none⟩ (.int .i64 (i : Int))) c h { st with fmt := [(i : Int)] } := by
    refine ⟨X, ⟨fun g' hs' => H1.gd g' (by simpa [World.setCell] using hs'), H1.sd, o1 (by decide), o2 (by decide), ⟨o3 (by decide), fun i y hy => ⟨o4 (by decide) i y hy, o5 (by decide) i y hy⟩⟩, H1.ns, o6 (by decide), o7 (by decide), ?_, ?_, o10 (by decide), o11 (by decide)⟩⟩
    · have := o8 (by decide)
      rw [hf] at this
      exact this
    · rw [hA]; exact hset'
  have FIN := Lib.hid (And.intro fin (Mv.setCell (S := Pr h) (w := w1) (c := c) (a := ⟨g, 0, none⟩) (show (c g).1 = h.sd by rw [hcg]) (.int .i64 (i : Int))))
  clear fin hset hset' hk' o1 o2 o3 o4 o5 o6 o7 o8 o10 o11 hc hfz hrow hcg hA H1
  go_wp2_with fail
  go_ret
  exact ⟨rfl, c, FIN.out.1, (Mv.of_below hb1).trans FIN.out.2⟩

/-- The place of a node among the open ones. -/
def notOpen (stk : List OpE) (i : Int) : Prop := ∀ (k : Nat) (o : OpE), stk[k]? = some o → (o.node == i) = false

set_option maxHeartbeats 1000000 in
theorem sIndexNone {s a : Nat} {A : Option Addr} {cap : Nat} {stk : List OpE} (H : SV w s a A cap stk) (i : Int) (hno : notOpen stk i) :
    Calls Tryz.prog 120 #[.pointer (some ⟨s, 0, none⟩), .int .i64 i] w fun e w' => e = .returned (.int .i64 (-1)) ∧ w = w' := by
  have L := Lib.hid (sLen H)
  have a1 := H.2.1
  have HC := Lib.hid H.2.2.2.2.2
  have HN := Lib.hid hno
  have hsz := H.2.2.1
  clear H hno
  go_enter Tryz.func120, Tryz.ntmps120
  go_wp2_with (go_at_call 77; refine L.out.mono ?_; rintro e w1 ⟨rfl, rfl⟩)
  go_loop [5] (fun t => ∃ k : Nat, k ≤ stk.length ∧ t = .int .i64 ((k : Int) - 1)) (fun t => (intOf t + 1).toNat)
  case atStart => exact ⟨stk.length, Nat.le_refl _, rfl⟩
  case round =>
    obtain ⟨k, hk, rfl⟩ := hrel
    by_cases h0 : 0 < k
    · obtain ⟨k, rfl⟩ : ∃ m, k = m + 1 := ⟨k - 1, by omega⟩
      obtain ⟨g, rfl, hc⟩ := HC.out (by omega)
      obtain ⟨o, ho⟩ : ∃ o, stk[k]? = some o := ⟨stk[k], List.getElem?_eq_getElem (by omega)⟩
      obtain ⟨c0, -, -⟩ := hc k o ho
      have hne := HN.out k o ho
      rw [show ((k + 1 : Nat) : Int) - 1 = (k : Int) by omega]
      have h1 : (0 : Int) ≤ (k : Int) := by omega
      have h2 : (k : Int) < (stk.length : Int) := by omega
      clear hc ho
      go_wp2_with fail
      go_round
      case rel => exact ⟨k, by omega, rfl⟩
      case measure => simp [intOf]
    · obtain rfl : k = 0 := by omega
      go_wp2_with fail
      go_ret
      exact ⟨rfl, rfl⟩

/-- The tag of which an element was made. -/
def agTok (n : Nd) (A : Option Addr) (cap : Nat) : Tok := { kind := 2, name := n.name, text := ⟨#[]⟩, attrs := n.attrs, aA := A, acap := cap, dup := n.dup, self := false, quirks := false, frm := n.frm, to_ := n.to_ }

set_option maxHeartbeats 1000000 in
theorem bAgain (w : World) (n : Nd) (A : Option Addr) (c1 : Nat) (K : Option Addr) (c2 : Nat) :
    Calls Tryz.prog 71 #[ndVal n A c1 K c2] w fun e w' => e = .returned (agTok n A c1).val ∧ Below w.heap.size w w' := by
  unfold ndVal
  go_enter Tryz.func71, Tryz.ntmps71
  go_wp2_with fail
  refine bodyPost_ret (v := (agTok n A c1).val) ?_ rfl ?_
  · simp [results, Tryz.results71, go_sem, Tok.val, Tok.cells, agTok]
  · exact ⟨rfl, below_alloc (below_alloc (Below.refl _ _) _) _⟩
end

end Go.Proofs.YtjmlkmlbhfkhbaaGreatDoor
