/-
  The builder's lost and Rebuild for a list of one element that is not open.
-/
import Derived.Test.YtjmlkmlbhfkhbaaGreatDoorFm2
import Derived.Test.YtjmlkmlbhfkhbaaGreatDoorNew
namespace Go.Proofs.YtjmlkmlbhfkhbaaGreatDoor
open Go Go.RowKit

theorem bdrewN (w : World) (m : Nat) : Below w.heap.size w (w.drewN m) := ⟨rfl, rfl, rfl, Nat.le_refl _, fun _ _ => rfl⟩
/-- Where a builder's parts lie. -/
theorem BRep.ptrs {w : World} {c : Col} {h : Hd} {st : St} (H : BRep w c h st) : w.cell? ⟨h.b, 0, none⟩ = some (.pointer (some ⟨h.a, 0, none⟩)) ∧ w.cell? ⟨h.b, 1, none⟩ = some (.pointer (some ⟨h.s, 0, none⟩)) ∧ w.cell? ⟨h.b, 2, none⟩ = some (.pointer (some ⟨h.l, 0, none⟩)) := by
  obtain ⟨b0, b1, b2, -⟩ := H.choose_spec.bc
  exact ⟨b0, b1, b2⟩

section
variable {w : World} {c : Col} {h : Hd} {st : St}

set_option maxRecDepth 100000 in
set_option maxHeartbeats 2000000 in
theorem bLost1 (H : BRep w c h st) {i : Nat} (hf : st.fmt = [(i : Int)]) (hl : st.stk.length ≤ 1000000) (hno : notOpen st.stk i) :
    Calls Tryz.prog 69 #[.pointer (some ⟨h.b, 0, none⟩)] w fun e w' => e = .returned (.int .i64 0) ∧ Below w.heap.size w w' := by
  have FVs := Lib.hid (fun (W : World) (hW : Below w.heap.size w W) => (H.loc hW).fv (by rw [hf]; simp))
  rw [hf] at FVs
  have SVs := Lib.hid (fun (W : World) (hW : Below w.heap.size w W) => (H.loc hW).sv hl)
  have NO := Lib.hid hno
  obtain ⟨b0, b1, b2⟩ := H.ptrs
  have BC := Lib.hid (fun (W : World) (hW : Below w.heap.size w W) => (H.loc hW).ptrs)
  obtain ⟨fA, fc, F0⟩ := FVs.out _ (Below.refl _ _)
  have L0 := Lib.hid (fLen F0)
  have A0 := Lib.hid (fAt F0 (k := 0) (n := (i : Int)) rfl)
  have hi1 : ((i : Int) == -1) = false := by
    have : (i : Int) ≠ -1 := by omega
    simp [this]
  rw [hi1] at A0
  clear H hf hno F0
  go_enter Tryz.func69, Tryz.ntmps69
  go_wp2_with (go_at_call 70; refine L0.out.mono ?_; rintro e w1 ⟨rfl, rfl⟩)
  go_loopw [3] (fun t wr => (t = .int .i64 1 ∧ wr = w) ∨ (t = .int .i64 0 ∧ Below w.heap.size w wr)) (fun t _ => (intOf t).toNat)
  case atStart => exact .inl ⟨rfl, rfl⟩
  case round =>
    rcases hrel with ⟨rfl, rfl⟩ | ⟨rfl, hb⟩
    · go_wp2_with (go_at_call 62; refine A0.out.mono ?_; rintro e w1 ⟨rfl, m, rfl⟩)
      have hB := bdrewN wr m
      obtain ⟨sA, sc, S1⟩ := SVs.out _ hB
      have IX := Lib.hid (sIndexNone S1 (i : Int) NO.out)
      obtain ⟨q0, q1, q2⟩ := BC.out _ hB
      clear S1
      go_wp2_with (go_at_call 120; refine IX.out.mono ?_; rintro e w1 ⟨rfl, rfl⟩)
      go_round
      case rel => exact .inr ⟨rfl, hB⟩
      case measure => decide
    · go_wp2_with fail
      go_ret
      exact ⟨rfl, hb⟩

/-- The tag of an open formatting element, of its node. -/
def rebM (st : St) (n : Nd) : St := { insM st (agTok n none 0) 0 with fmt := [(st.ns.length : Int)] }

set_option maxRecDepth 100000 in
set_option maxHeartbeats 4000000 in
theorem bRebuild1 (H : BRep w c h st) {N : Nat} (wf : Wf N st) (hN : N ≤ 1000000) {i : Nat} {n : Nd} (hf : st.fmt = [(i : Int)]) (hl : st.stk.length < 512) (hno : notOpen st.stk i)
    (hi : st.ns[i]? = some n) (hk : n.kind = 3) (hta : n.attrs.length ≤ 1000) :
    Calls Tryz.prog 24 #[.pointer (some ⟨h.b, 0, none⟩)] w (OkB h (rebM st n) (.tuple #[]) w c) := by
  have N1 := Lib.hid (bNone H)
  have LO := Lib.hid (bLost1 H hf (by omega) hno)
  have FVs := Lib.hid (fun (W : World) (hW : Below w.heap.size w W) => (H.loc hW).fv (by rw [hf]; simp))
  have PT := Lib.hid (fun (W : World) (hW : Below w.heap.size w W) => (H.loc hW).ptrs)
  rw [hf] at FVs
  have ND := Lib.hid (fun (W : World) (hW : Below w.heap.size w W) => aNodeB (H.loc hW) wf.sz (by omega) hi)
  have IN := Lib.hid (fun (W : World) (hW : Below w.heap.size w W) (A : Option Addr) (c1 : Nat) (hs : Src W A (attrCells n.attrs)) => bInsert (H.loc hW) wf (by omega) hl (agTok n A c1) 0 hs hta)
  have e0 : ∀ A c1, insM st (agTok n A c1) 0 = insM st (agTok n none 0) 0 := fun A c1 => rfl
  have W2 := wf.ins (agTok n none 0) 0 hta
  obtain ⟨m, hm, hmk⟩ : ∃ m, (insM st (agTok n none 0) 0).ns[st.ns.length]? = some m ∧ m.kind = 3 := by
    obtain ⟨k, n1⟩ := addN_new st.ns (elC (agTok n none 0) 0).nd
    obtain ⟨m, hm⟩ := hangN_some (p := plIx st.ns (tgtIx st)) (i := st.ns.length) n1
    have hpl : plIx st.ns (tgtIx st) < st.ns.length := by
      obtain ⟨n, t1, t2, t3⟩ := wf.tgt
      obtain ⟨np, p1, p2, p3⟩ := wf.place t1 t3
      exact (List.getElem?_eq_some_iff.1 p1).1
    obtain ⟨n', hn', f1, -⟩ := hangN_cases (by omega) hm
    rw [n1] at hn'
    obtain rfl := Option.some.inj hn'
    exact ⟨m, hm, by rw [f1]; rfl⟩
  have RP := Lib.hid (fun (W : World) (c2 : Col) (H2 : BRep W c2 h (insM st (agTok n none 0) 0)) => fReplace0 H2 W2.sz (by omega) (a := (i : Int)) hf hm hmk)
  have hi1 : ((i : Int) == -1) = false := by
    have : (i : Int) ≠ -1 := by omega
    simp [this]
  have h0 : (0 : Int) ≤ (st.ns.length : Int) := by omega
  obtain ⟨b0, b1, b2⟩ := H.ptrs
  clear H wf hf hno hi hm W2
  go_enter Tryz.func24, Tryz.ntmps24
  go_wp2_with (first
    | (go_at_call 63; refine N1.out.mono ?_; rintro e w1 ⟨rfl, rfl⟩)
    | (go_at_call 69; refine LO.out.mono ?_; rintro e w1 ⟨rfl, hb1⟩))
  clear b0 b1 b2
  go_loopw [2] (fun t wr => (t = .int .i64 0 ∧ Below w.heap.size w wr) ∨ (t = .int .i64 1 ∧ ∃ c', BRep wr c' h (rebM st n) ∧ Mv (Pr h) w c wr c')) (fun t _ => 1 - (intOf t).toNat)
  case atStart => exact .inl ⟨rfl, hb1⟩
  case round =>
    rcases hrel with ⟨rfl, hb⟩ | ⟨rfl, c3, H3, hm3⟩
    · obtain ⟨b0, b1, b2⟩ := PT.out _ hb
      obtain ⟨fA, fc, F0⟩ := FVs.out _ hb
      have L0 := Lib.hid (fLen F0)
      have A0 := Lib.hid (fAt F0 (k := 0) (n := (i : Int)) rfl)
      rw [hi1] at A0
      clear F0
      go_wp2_with (first
        | (go_at_call 70; refine L0.out.mono ?_; rintro e w1 ⟨rfl, rfl⟩)
        | (go_at_call 62; refine A0.out.mono ?_; rintro e w1 ⟨rfl, m, rfl⟩; have hB := below_step hb (bdrewN wr m); obtain ⟨q0, q1, q2⟩ := PT.out _ hB)
        | (go_at_call 72; refine (ND.out _ hB).mono ?_; rintro e w2 ⟨A, c1, K, c2, rfl, hb2, hr2, -⟩; have hB2 := below_step hB hb2)
        | (go_at_call 71; refine (bAgain _ n A c1 K c2).mono ?_; rintro e w3 ⟨rfl, hb3⟩; have hs3 := hr2.src.loc hb3; have hB3 := below_step hB2 hb3)
        | (go_at_call 45; refine (IN.out _ hB3 A c1 hs3).mono ?_; intro e w4 ho; obtain ⟨rfl, c4, H4, hm4⟩ := ho.after hB3; rw [e0] at H4; obtain ⟨r0, r1, r2⟩ := H4.ptrs)
        | (go_at_call 73; refine (RP.out _ _ H4).mono ?_; rintro e w5 ⟨rfl, c5, H5, hm5⟩))
      go_round
      case rel => exact .inr ⟨rfl, c5, H5, hm4.trans hm5⟩
      case measure => decide
    · obtain ⟨b0, b1, b2⟩ := H3.ptrs
      obtain ⟨fA, fc, F0⟩ := H3.fv (by simp [rebM])
      have L0 := Lib.hid (fLen F0)
      clear F0
      have HM := Lib.hid (And.intro H3 hm3)
      clear H3 hm3
      go_wp2_with (go_at_call 70; refine L0.out.mono ?_; rintro e w1 ⟨rfl, rfl⟩)
      go_end0
      exact ⟨rfl, c3, HM.out.1, HM.out.2⟩
end

end Go.Proofs.YtjmlkmlbhfkhbaaGreatDoor
