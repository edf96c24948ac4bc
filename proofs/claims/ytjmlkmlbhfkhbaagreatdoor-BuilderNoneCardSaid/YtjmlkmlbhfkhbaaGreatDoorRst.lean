/-
  The builder's Reset.
-/
import Derived.Test.YtjmlkmlbhfkhbaaGreatDoorFnd
namespace Go.Proofs.YtjmlkmlbhfkhbaaGreatDoor
open Go Go.RowKit

def resetFrom (st : St) : Nat → Int
  | 0 => 6
  | k + 1 => match st.stk[k]? with
    | some o => match st.ns[o.node.toNat]? with
      | some n => if (foundR st n (k == 0)).2 then (foundR st n (k == 0)).1 else resetFrom st k
      | none => 6
    | none => 6
def resetM (st : St) : St := { st with mode := resetFrom st st.stk.length }

set_option maxRecDepth 100000 in
set_option maxHeartbeats 8000000 in
theorem bReset {w : World} {c : Col} {h : Hd} {st : St} (H : BRep w c h st) (hby : ByOk w c) {N : Nat} (hs : Sz N st) (hN : N ≤ 100000000) (hl : st.stk.length ≤ 1000000) (hml : st.modes.length ≤ 1000000) (hop : OpenOk st) (hnm : ∀ (i : Nat) (n : Nd), st.ns[i]? = some n → n.name.size ≤ maxLen) :
    Calls Tryz.prog 26 #[.pointer (some ⟨h.b, 0, none⟩)] w (OkB h (resetM st) (.tuple #[]) w c) := by
  have N1 := Lib.hid (bNone H)
  have L := Lib.hid (sLen (H.choose_spec.sv hl))
  obtain ⟨b0, b1, b2⟩ := H.ptrs
  have HH := Lib.hid H
  have HB' := Lib.hid hby
  have HS := Lib.hid hs
  have HO := Lib.hid hop
  have HNM := Lib.hid hnm
  have hbl := H.choose_spec.hb.lt
  have FIN : Hid (∀ (W : World) (m : Int), Below w.heap.size w W → m = resetFrom st st.stk.length → OkB h (resetM st) (.tuple #[]) w c (.returned (.tuple #[])) (W.setCell ⟨h.b, 3, none⟩ (.int .i64 m))) := Lib.hid fun W m hW hm => by
    subst hm
    obtain ⟨x, X⟩ := H.loc hW
    exact ⟨rfl, c, ⟨x, X.setB 3 _ (resetM st) x rfl rfl rfl rfl rfl rfl rfl ⟨rfl, rfl⟩ rfl⟩, (Mv.of_below hW).trans (X.mvB 3 _)⟩
  have FZ : Hid (∀ W, Below w.heap.size w W → W.cell? ⟨h.b, 3, none⟩ = some (.int .i64 st.mode) ∧ W.frozen? ⟨h.b, 3, none⟩ = false) := Lib.hid fun W hW => by
    obtain ⟨b0, b1, b2, b3, -⟩ := (H.loc hW).choose_spec.bc
    exact ⟨b3, (H.loc hW).choose_spec.hb.frozen 3⟩
  clear H hby hs hop hnm
  go_enter Tryz.func26, Tryz.ntmps26
  go_wp2_with (first
    | (go_at_call 63; refine N1.out.mono ?_; rintro e w1 ⟨rfl, rfl⟩)
    | (go_at_call 77; refine L.out.mono ?_; rintro e w1 ⟨rfl, rfl⟩))
  go_loopw [2] (fun t wr => ∃ k : Nat, k ≤ st.stk.length ∧ t = .int .i64 ((k : Int) - 1) ∧ Hid (resetFrom st k = resetFrom st st.stk.length) ∧ Below w.heap.size w wr) (fun t _ => (intOf t + 1).toNat)
  case atStart => exact ⟨st.stk.length, Nat.le_refl _, rfl, Lib.hid rfl, Below.refl _ _⟩
  case round =>
    obtain ⟨k, hk, rfl, hlf, hb⟩ := hrel
    by_cases h0 : 0 < k
    · obtain ⟨k, rfl⟩ : ∃ m, k = m + 1 := ⟨k - 1, by omega⟩
      have Hr := HH.out.loc hb
      obtain ⟨o, ho⟩ : ∃ o, st.stk[k]? = some o := ⟨st.stk[k], List.getElem?_eq_getElem (by omega)⟩
      obtain ⟨i, n, e1, e2, e3, e4, e5⟩ := HO.out k o ho
      have AT := Lib.hid (fun (W : World) (hW : Below w.heap.size w W) => sAt ((HH.out.loc hW).choose_spec.sv hl) (k : Int))
      have e6 : atOf st.stk (k : Int) = (i : Int) := by unfold atOf; rw [if_pos (by omega)]; simp [ho, e1]
      rw [e6] at AT
      obtain ⟨c0, c1, -⟩ := Hr.ptrs
      have hbr : h.b < wr.heap.size := Nat.lt_of_lt_of_le hbl hb.size
      have e7 : ((k + 1 : Nat) : Int) - 1 = (k : Int) := by omega
      have HLS : Hid (resetFrom st (k + 1) = if (foundR st n (k == 0)).2 then (foundR st n (k == 0)).1 else resetFrom st k) := Lib.hid (by
        rw [resetFrom, ho]; simp only [e1, Int.toNat_natCast, e2])
      have E2 := Lib.hid e2
      have HN := Lib.hid (HNM.out i n e2)
      have ek : ((k : Int) == 0) = (k == 0) := by
        cases k with
        | zero => rfl
        | succ m =>
          have : ((m + 1 : Nat) : Int) ≠ 0 := by omega
          rw [beq_eq_false_iff_ne.2 this]
          rfl
      rw [e7]
      have h0' : (0 : Int) ≤ (k : Int) := by omega
      clear ho e1 e2 e3 e4 e5 e6 e7 b0 b1 Hr
      generalize hq0 : (k == 0) = kz at *
      go_wp2_with fail
      have KEEP : Hid (∀ W, Below w.heap.size w W → W.cell? ⟨h.b, 0, none⟩ = some (.pointer (some ⟨h.a, 0, none⟩)) ∧ W.cell? ⟨h.b, 1, none⟩ = some (.pointer (some ⟨h.s, 0, none⟩)) ∧ Below w.heap.size w W) := Lib.hid fun W hW => by
        obtain ⟨x0, x1, -⟩ := (HH.out.loc hW).ptrs
        exact ⟨x0, x1, hW⟩
      go_region_held3 (fun w' => w'.cell? ⟨h.b, 0, none⟩ = some (.pointer (some ⟨h.a, 0, none⟩)) ∧ w'.cell? ⟨h.b, 1, none⟩ = some (.pointer (some ⟨h.s, 0, none⟩)) ∧ Below w.heap.size w w')
        (first | exact KEEP.out _ (below_drew hb) | (go_split_ands; refine KEEP.out _ ?_; first | assumption | exact below_alloc (by assumption) _ | exact below_step (by assumption) (by assumption)))
        (first
        | (go_at_call 79; refine Calls.mono (AT.out _ (below_drew hb)) ?_; rintro e w1 ⟨rfl, rfl⟩)
        | (go_at_call 72; refine Calls.mono (aNodeB (HH.out.loc (below_drew hb)) HS.out hN E2.out) ?_; rintro e w2 ⟨A, c1, K, c2, rfl, hb2, -, -⟩)
        | (go_at_call 78; refine Calls.mono (bFound (HH.out.loc (below_step (below_drew hb) hb2)) (HB'.out.loc (below_step (below_drew hb) hb2)) n A c1 K c2 kz HN.out hml) ?_; rintro e w3 ⟨rfl, hb3⟩))
      all_goals
        go_split_ands
        cases hq : (foundR st n kz).2
        · have HQ := Lib.hid hq
          go_wp2_with fail
          go_roundw
          case rel =>
            refine ⟨k, by omega, rfl, Lib.hid ?_, by assumption⟩
            rw [← hlf.out, HLS.out, HQ.out]
            rfl
          case measure => simp [intOf]
        · have HQ := Lib.hid hq
          obtain ⟨fc, fz⟩ := FZ.out w3 (by assumption)
          go_wp2_with fail
          refine bodyPost_ret (results_none rfl _ _ _) rfl ?_
          exact FIN.out w3 _ (by assumption) (by rw [← hlf.out, HLS.out, HQ.out]; rfl)
    · obtain rfl : k = 0 := by omega
      obtain ⟨c0, c1, -⟩ := (HH.out.loc hb).ptrs
      obtain ⟨fc, fz⟩ := FZ.out _ hb
      have hbr : h.b < wr.heap.size := Nat.lt_of_lt_of_le hbl hb.size
      clear b0 b1
      go_wp2_with fail
      go_end0
      exact FIN.out _ _ hb hlf.out
end Go.Proofs.YtjmlkmlbhfkhbaaGreatDoor
