/-
  fostered and Place where an open table's parent stands.
-/
import Derived.Test.YtjmlkmlbhfkhbaaGreatDoorRst
namespace Go.Proofs.YtjmlkmlbhfkhbaaGreatDoor
open Go Go.RowKit
abbrev nTable : Str := ⟨#[116, 97, 98, 108, 101]⟩
abbrev nTbody : Str := ⟨#[116, 98, 111, 100, 121]⟩
abbrev nTfoot : Str := ⟨#[116, 102, 111, 111, 116]⟩
abbrev nThead : Str := ⟨#[116, 104, 101, 97, 100]⟩
abbrev nTr : Str := ⟨#[116, 114]⟩

section
variable {w : World} {c : Col} {h : Hd} {st : St}

theorem fld6' (n : Nd) (A : Option Addr) (c1 : Nat) (K : Option Addr) (c2 : Nat) (W : World) : (Instr.field 58 (ndVal n A c1 K c2) 6).run Tryz.prog W = .ok (.int .i64 n.parent) W := fld6 n A c1 K c2 W

set_option maxRecDepth 100000 in
set_option maxHeartbeats 4000000 in
theorem bFostered (H : BRep w c h st) {N : Nat} (hs : Sz N st) (hN : N ≤ 100000000) (hl : st.stk.length ≤ 1000000) (hop : OpenOk st)
    (h1 : lastOf st.stk [nTemplate] = -1) {k : Int} (h2 : lastOf st.stk [nTable] = k) (hk : 0 ≤ k) {t : Nat} (ht : atOf st.stk k = (t : Int)) {n : Nd} (hn : st.ns[t]? = some n) (hp : 0 ≤ n.parent) :
    Calls Tryz.prog 82 #[.pointer (some ⟨h.b, 0, none⟩)] w fun e w' => e = .returned (.tuple #[.int .i64 n.parent, .int .i64 t]) ∧ Below w.heap.size w w' := by
  have L1 := Lib.hid (fun (W : World) (hW : Below w.heap.size w W) => bLast (H.loc hW) hs hN hl hop nTemplate)
  have L2 := Lib.hid (fun (W : World) (hW : Below w.heap.size w W) => bLast (H.loc hW) hs hN hl hop nTable)
  rw [h1] at L1
  rw [h2] at L2
  have AT := Lib.hid (fun (W : World) (hW : Below w.heap.size w W) => sAt ((H.loc hW).choose_spec.sv hl) k)
  rw [ht] at AT
  have ND := Lib.hid (fun (W : World) (hW : Below w.heap.size w W) => aNodeB (H.loc hW) hs hN hn)
  have PT := Lib.hid (fun (W : World) (hW : Below w.heap.size w W) => (H.loc hW).ptrs)
  clear H hs hop h1 h2 ht hn
  go_enter Tryz.func82, Tryz.ntmps82
  go_wp2_with fail
  refine (L1.out _ (Below.refl _ _)).mono ?_
  rintro e w1 ⟨rfl, hb1⟩
  go_wp2_with fail
  refine (L2.out _ hb1).mono ?_
  rintro e w2 ⟨rfl, hb2⟩
  have hB := below_step hb1 hb2
  obtain ⟨q0, q1, q2⟩ := PT.out _ hB
  have hk1 : ¬ (-1 : Int) > k := by omega
  have hk2 : ¬ k < 0 := by omega
  go_wp2_with (go_at_call 79; refine (AT.out _ hB).mono ?_; rintro e w3 ⟨rfl, rfl⟩)
  refine (ND.out _ hB).mono ?_
  rintro e w3 ⟨A, c1, K, c2, rfl, hb3, -, -⟩
  have f6 := fld6' n A c1 K c2 w3
  go_wp2_with fail
  refine bodyPost_ret (results_tmp2 rfl _ _ _) rfl ?_
  exact ⟨rfl, below_step hB hb3⟩

set_option maxRecDepth 100000 in
set_option maxHeartbeats 4000000 in
theorem bPlaceF (H : BRep w c h st) {N : Nat} (hs : Sz N st) (hN : N ≤ 100000000) (hl : st.stk.length ≤ 1000000) (hop : OpenOk st) (hf : st.foster = true)
    (h1 : lastOf st.stk [nTemplate] = -1) {k : Int} (h2 : lastOf st.stk [nTable] = k) (hk : 0 ≤ k) {t : Nat} (ht : atOf st.stk k = (t : Int)) {n : Nd} (hn : st.ns[t]? = some n) {p : Nat} (hp : n.parent = (p : Int)) {np : Nd} (hnp : st.ns[p]? = some np)
    {g : Nat} {ng : Nd} (hg : st.ns[g]? = some ng) (hgt : htmlN ng [nTable, nTbody, nTfoot, nThead, nTr] = true) :
    Calls Tryz.prog 28 #[.pointer (some ⟨h.b, 0, none⟩), .int .i64 g] w fun e w' => e = .returned (.tuple #[.int .i64 p, .int .i64 t]) ∧ Below w.heap.size w w' := by
  have N1 := Lib.hid (bNone H)
  have FO := Lib.hid (fun (W : World) (hW : Below w.heap.size w W) => bFostered (H.loc hW) hs hN hl hop h1 h2 hk ht hn (by omega))
  rw [hp] at FO
  have ND := Lib.hid (fun (W : World) (hW : Below w.heap.size w W) => aNodeB (H.loc hW) hs hN hg)
  have NP := Lib.hid (fun (W : World) (hW : Below w.heap.size w W) => aNodeB (H.loc hW) hs hN hnp)
  have PT := Lib.hid (fun (W : World) (hW : Below w.heap.size w W) => And.intro (H.loc hW).ptrs (show W.cell? ⟨h.b, 9, none⟩ = some (.bool true) by
    obtain ⟨b0, b1, b2, b3, b4, b5, b6, b7, b8, b9, -⟩ := (H.loc hW).choose_spec.bc
    rw [hf] at b9
    exact b9))
  obtain ⟨⟨b0, b1, b2⟩, b9⟩ := PT.out _ (Below.refl _ _)
  have ht0 : (0 : Int) ≤ (t : Int) := by omega
  clear H hs hop h1 h2 ht hn hp hnp hg hf
  go_enter Tryz.func28, Tryz.ntmps28
  go_wp2_with (go_at_call 63; refine N1.out.mono ?_; rintro e w1 ⟨rfl, rfl⟩)
  refine (ND.out _ (Below.refl _ _)).mono ?_
  rintro e w2 ⟨A, c1, K, c2, rfl, hb2, -, -⟩
  go_wp2_with (go_at_call 81; refine Calls.mono (bHtml _ ng A c1 K c2 _ 5 [nTable, nTbody, nTfoot, nThead, nTr] (by simp) (by exact Strs.mk_ _ (by simp))) ?_; rintro e w3 ⟨rfl, hb3⟩; rw [hgt])
  have hB3 := below_step (below_alloc hb2 _) hb3
  refine (FO.out _ hB3).mono ?_
  rintro e w4 ⟨rfl, hb4⟩
  have hB4 := below_step hB3 hb4
  obtain ⟨⟨q0, q1, q2⟩, q9⟩ := PT.out _ hB4
  go_wp2_with fail
  refine (NP.out _ hB4).mono ?_
  rintro e w5 ⟨A', c1', K', c2', rfl, hb5, -, -⟩
  unfold ndVal
  go_wp2_with fail
  refine bodyPost_ret (results_tmp2 rfl _ _ _) rfl ?_
  exact ⟨rfl, below_alloc (below_step hB4 hb5) _⟩
end
end Go.Proofs.YtjmlkmlbhfkhbaaGreatDoor
