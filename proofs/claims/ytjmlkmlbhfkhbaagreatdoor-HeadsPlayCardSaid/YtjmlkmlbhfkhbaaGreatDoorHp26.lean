/-
  The law's node (152): two nodes that are the same.
  The law's Nodes (101): two rows of the same nodes.
  The arena's Tree (53) with the nodes' attributes; the builder's Modes (35), Ask (29) where nothing is asked.
  The law's Same (57): what is wanted of both sides; the head of the walk.
  The reference's New (54).
-/
import Derived.Test.YtjmlkmlbhfkhbaaGreatDoorHp25
import Derived.BigQuiet
import Derived.Deep.RegionWith
import Derived.BigRegion
import Derived.Test.YtjmlkmlbhfkhbaaGreatDoorHp11
import Derived.Test.YtjmlkmlbhfkhbaaGreatDoorHp12
import Derived.Test.YtjmlkmlbhfkhbaaGreatDoorHp14
import Derived.Test.YtjmlkmlbhfkhbaaGreatDoorHp22
import Derived.Test.YtjmlkmlbhfkhbaaGreatDoorHp09
set_option linter.unusedSimpArgs false
set_option linter.unusedVariables false
namespace Go.Proofs.YtjmlkmlbhfkhbaaGreatDoor
open Go Go.RowKit

/-- Cells that can be read where a slice says. -/
def RAt (w : World) (A : Option Addr) (xs : List Value) : Prop := xs ≠ [] → ∃ g, A = some ⟨g, 0, none⟩ ∧ g < w.heap.size ∧ ∀ (j : Nat) (u : Value), xs[j]? = some u → w.cell? ⟨g, j, none⟩ = some u
theorem RAt.loc {w w' : World} {A : Option Addr} {xs : List Value} (H : RAt w A xs) (hb : Below w.heap.size w w') : RAt w' A xs := by
  intro h
  obtain ⟨g, h1, h2, h3⟩ := H h
  exact ⟨g, h1, Nat.lt_of_lt_of_le h2 hb.size, fun j u hu => ((bcell hb).1 g j h2).trans (h3 j u hu)⟩
theorem RowOk.rAt {w : World} {c : Col} {k : Key} {e : TypeId} {size : Nat} {A : Option Addr} {n cap : Nat} {xs : List Value} (h : RowOk w c k e size A n cap xs) : RAt w A xs := by
  intro hx
  have hn : 0 < n := by
    rcases Nat.eq_zero_or_pos n with h0 | h0
    · have := h.1
      rw [h0, Nat.zero_mul] at this
      exact absurd (List.eq_nil_of_length_eq_zero this) hx
    · exact h0
  obtain ⟨g, e1, -, e3, e4, -⟩ := h.at_ hn
  exact ⟨g, e1, e3, e4⟩

set_option maxRecDepth 100000 in
set_option maxHeartbeats 4000000 in
theorem lNode (w : World) (n : Nd) (A1 : Option Addr) (c1 : Nat) (K1 : Option Addr) (d1 : Nat) (A2 : Option Addr) (c2 : Nat) (K2 : Option Addr) (d2 : Nat)
    (hna : n.attrs.length ≤ 1000000000) (hnk : n.kids.length ≤ 1000000000)
    (a1 : RAt w A1 (attrCells n.attrs)) (k1 : RAt w K1 (intCells n.kids)) (a2 : RAt w A2 (attrCells n.attrs)) (k2 : RAt w K2 (intCells n.kids)) :
    Calls Tryz.prog 152 #[ndVal n A1 c1 K1 d1, ndVal n A2 c2 K2 d2] w fun e w' => e = .returned (.bool true) ∧ Below w.heap.size w w' := by
  obtain ⟨wa, hwa⟩ : ∃ wa, wa = (w.alloc (.cells (NdC.cells ⟨n, A1, c1, K1, d1⟩).toArray 58)).alloc (.cells (NdC.cells ⟨n, A2, c2, K2, d2⟩).toArray 58) := ⟨_, rfl⟩
  have hba : Below w.heap.size w wa := by rw [hwa]; exact below_alloc (below_alloc (Below.refl _ _) _) _
  have H1 : HB wa w.heap.size 58 (NdC.cells ⟨n, A1, c1, K1, d1⟩) := by rw [hwa]; exact (HB.new w 58 _).alloc _
  have H2 : HB wa (w.heap.size + 1) 58 (NdC.cells ⟨n, A2, c2, K2, d2⟩) := by rw [hwa]; exact HB.at_ (by simp)
  have KEY := Lib.hid (fun (W : World) (hW : Below wa.heap.size wa W) => And.intro (H1.below hW).node (H2.below hW).node)
  have RR := Lib.hid (fun (W : World) (hW : Below wa.heap.size wa W) => And.intro (And.intro (a1.loc (below_step hba hW)) (k1.loc (below_step hba hW))) (And.intro (a2.loc (below_step hba hW)) (k2.loc (below_step hba hW))))
  have HBA := Lib.hid hba
  have HWA := Lib.hid hwa
  clear a1 k1 a2 k2 H1 H2 hba hwa
  unfold ndVal
  unfold NdC.cells at HWA
  go_enter Tryz.func152, Tryz.ntmps152
  go_wp2_with fail
  go_loopw [5] (fun a wr => ∃ k : Nat, k ≤ n.attrs.length ∧ a = .int .i64 k ∧ Hid (Below wa.heap.size wa wr)) (fun a _ => n.attrs.length - (intOf a).toNat)
  case atStart => exact ⟨0, Nat.zero_le _, rfl, Lib.hid (by rw [HWA.out]; exact Below.refl _ _)⟩
  case round =>
    obtain ⟨k, hk, rfl, hR⟩ := hrel
    obtain ⟨wo, rfl⟩ : ∃ wo : World, wo = wr := ⟨_, rfl⟩
    obtain ⟨N1, N2⟩ := KEY.out wo hR.out
    obtain ⟨-, -, -, -, x4, -, -, -, x8, -, -⟩ := N1
    obtain ⟨-, -, -, -, y4, -, -, -, y8, -, -⟩ := N2
    by_cases hlt : k < n.attrs.length
    · have g2 : (k : Int) < (n.attrs.length : Int) := by omega
      have g3 : (0 : Int) ≤ (k : Int) := by omega
      obtain ⟨p, hp⟩ : ∃ p, n.attrs[k]? = some p := ⟨_, List.getElem?_eq_getElem hlt⟩
      obtain ⟨q1, q2⟩ := attr_at hp
      have hne : attrCells n.attrs ≠ [] := fun e => by rw [e] at q1; simp at q1
      obtain ⟨⟨r1, -⟩, r2, -⟩ := RR.out wo hR.out
      obtain ⟨ga, rfl, -, ra⟩ := r1 hne
      obtain ⟨gb, rfl, -, rb⟩ := r2 hne
      have u1 := ra _ _ q1
      have u2 := ra _ _ q2
      have v1 := rb _ _ q1
      have v2 := rb _ _ q2
      have hw : IntKind.i64.wrap ((k : Int) + 1) = (k : Int) + 1 := by have := wrap_small (L := k + 1) (by omega); rwa [show (((k + 1 : Nat) : Int)) = (k : Int) + 1 by omega] at this
      clear ra rb q1 q2 hp hne
      go_wp2_with fail
      go_quiet (fail)
      go_wp2_with fail
      go_roundw
      case rel => exact ⟨k + 1, by omega, by rfl, Lib.hid (below_step hR.out (bdrewN _ _))⟩
      case measure => simp [intOf]; omega
    · obtain rfl : k = n.attrs.length := by omega
      have g2 : ¬ (n.attrs.length : Int) < (n.attrs.length : Int) := by omega
      have R1 := hR
      go_wp2_with fail
      go_loopw [6] (fun a ws => ∃ j : Nat, j ≤ n.kids.length ∧ a = .int .i64 j ∧ Hid (Below wa.heap.size wa ws)) (fun a _ => n.kids.length - (intOf a).toNat)
      case atStart => exact ⟨0, Nat.zero_le _, rfl, R1⟩
      case round =>
        obtain ⟨j, hj, rfl, hR⟩ := hrel
        clear x4 x8 y4 y8 g2
        obtain ⟨N1, N2⟩ := KEY.out wr hR.out
        obtain ⟨-, -, -, -, x4, -, -, -, x8, -, -⟩ := N1
        obtain ⟨-, -, -, -, y4, -, -, -, y8, -, -⟩ := N2
        by_cases hlt : j < n.kids.length
        · have g2 : (j : Int) < (n.kids.length : Int) := by omega
          have g3 : (0 : Int) ≤ (j : Int) := by omega
          obtain ⟨p, hp⟩ : ∃ p, n.kids[j]? = some p := ⟨_, List.getElem?_eq_getElem hlt⟩
          have q1 : (intCells n.kids)[j]? = some (.int .i64 p) := by unfold intCells; rw [List.getElem?_map, hp]; rfl
          have hne : intCells n.kids ≠ [] := fun e => by rw [e] at q1; simp at q1
          obtain ⟨⟨-, r1⟩, -, r2⟩ := RR.out wr hR.out
          obtain ⟨ga, rfl, -, ra⟩ := r1 hne
          obtain ⟨gb, rfl, -, rb⟩ := r2 hne
          have u1 := ra _ _ q1
          have v1 := rb _ _ q1
          have hw : IntKind.i64.wrap ((j : Int) + 1) = (j : Int) + 1 := by have := wrap_small (L := j + 1) (by omega); rwa [show (((j + 1 : Nat) : Int)) = (j : Int) + 1 by omega] at this
          clear ra rb q1 hp hne
          go_wp2_with fail
          go_quiet (fail)
          go_wp2_with fail
          go_roundw
          case rel => exact ⟨j + 1, by omega, by rfl, Lib.hid (below_step hR.out (bdrewN _ _))⟩
          case measure => simp [intOf]; omega
        · obtain rfl : j = n.kids.length := by omega
          have g2 : ¬ (n.kids.length : Int) < (n.kids.length : Int) := by omega
          go_wp2_with fail
          go_ret
          exact ⟨rfl, below_step HBA.out hR.out⟩
end Go.Proofs.YtjmlkmlbhfkhbaaGreatDoor
namespace Go.Proofs.YtjmlkmlbhfkhbaaGreatDoor
open Go Go.RowKit

/-- A row of nodes that can be read, with their attributes and kids. -/
def TreeR (w : World) (A : Option Addr) (ns : List Nd) : Prop :=
  ∃ cs : List NdC, cs.map (·.nd) = ns ∧ RAt w A (cs.flatMap NdC.cells) ∧ ∀ (i : Nat) (x : NdC), cs[i]? = some x → RAt w x.aA (attrCells x.nd.attrs) ∧ RAt w x.kA (intCells x.nd.kids)
theorem TreeR.loc {w w' : World} {A : Option Addr} {ns : List Nd} (H : TreeR w A ns) (hb : Below w.heap.size w w') : TreeR w' A ns := by
  obtain ⟨cs, h1, h2, h3⟩ := H
  exact ⟨cs, h1, h2.loc hb, fun i x hx => ⟨(h3 i x hx).1.loc hb, (h3 i x hx).2.loc hb⟩⟩
theorem TreeR.node {w : World} {A : Option Addr} {ns : List Nd} (H : TreeR w A ns) {i : Nat} {n : Nd} (hi : ns[i]? = some n) :
    ∃ (g : Nat) (aA : Option Addr) (ac : Nat) (kA : Option Addr) (kc : Nat), A = some ⟨g, 0, none⟩ ∧ RAt w aA (attrCells n.attrs) ∧ RAt w kA (intCells n.kids) ∧
      w.cell? ⟨g, i * 11, none⟩ = some (.int .i64 n.kind) ∧ w.cell? ⟨g, i * 11 + 1, none⟩ = some (.string n.name) ∧ w.cell? ⟨g, i * 11 + 2, none⟩ = some (.string n.text) ∧
      w.cell? ⟨g, i * 11 + 3, none⟩ = some (.int .i64 n.space) ∧ w.cell? ⟨g, i * 11 + 4, none⟩ = some (.slice aA n.attrs.length ac) ∧ w.cell? ⟨g, i * 11 + 5, none⟩ = some (.bool n.dup) ∧
      w.cell? ⟨g, i * 11 + 6, none⟩ = some (.int .i64 n.parent) ∧ w.cell? ⟨g, i * 11 + 7, none⟩ = some (.int .i64 n.content) ∧ w.cell? ⟨g, i * 11 + 8, none⟩ = some (.slice kA n.kids.length kc) ∧
      w.cell? ⟨g, i * 11 + 9, none⟩ = some (.int .i64 n.frm) ∧ w.cell? ⟨g, i * 11 + 10, none⟩ = some (.int .i64 n.to_) := by
  obtain ⟨cs, h1, h2, h3⟩ := H
  rw [← h1, List.getElem?_map] at hi
  cases hx : cs[i]? with
  | none => rw [hx] at hi; cases hi
  | some x =>
    rw [hx] at hi
    obtain rfl := Option.some.inj hi
    have f0 := flat_at cs i 0 x hx (by decide)
    have hne : cs.flatMap NdC.cells ≠ [] := fun e => by
      rw [e] at f0
      simp [NdC.cells] at f0
    obtain ⟨g, e1, -, e3⟩ := h2 hne
    have hc : ∀ (j : Nat) (u : Value), j < 11 → x.cells[j]? = some u → w.cell? ⟨g, i * 11 + j, none⟩ = some u := fun j u hj hu => e3 _ _ ((flat_at cs i j x hx hj).trans hu)
    exact ⟨g, x.aA, x.acap, x.kA, x.kcap, e1, (h3 i x hx).1, (h3 i x hx).2, hc 0 _ (by decide) rfl, hc 1 _ (by decide) rfl, hc 2 _ (by decide) rfl, hc 3 _ (by decide) rfl, hc 4 _ (by decide) rfl, hc 5 _ (by decide) rfl,
      hc 6 _ (by decide) rfl, hc 7 _ (by decide) rfl, hc 8 _ (by decide) rfl, hc 9 _ (by decide) rfl, hc 10 _ (by decide) rfl⟩

set_option maxRecDepth 100000 in
set_option maxHeartbeats 4000000 in
theorem lNodes (w : World) (ns : List Nd) (A1 : Option Addr) (c1 : Nat) (A2 : Option Addr) (c2 : Nat) (hl : ns.length ≤ 1000000000) (hz : ∀ n ∈ ns, n.attrs.length ≤ 1000000000 ∧ n.kids.length ≤ 1000000000)
    (T1 : TreeR w A1 ns) (T2 : TreeR w A2 ns) :
    Calls Tryz.prog 101 #[.slice A1 ns.length c1, .slice A2 ns.length c2] w fun e w' => e = .returned (.bool true) ∧ Below w.heap.size w w' := by
  have TT := Lib.hid (And.intro T1 T2)
  have HZ := Lib.hid hz
  clear T1 T2 hz
  go_enter Tryz.func101, Tryz.ntmps101
  go_wp2_with fail
  go_loopw [5] (fun a wr => ∃ k : Nat, k ≤ ns.length ∧ a = .int .i64 k ∧ Hid (Below w.heap.size w wr)) (fun a _ => ns.length - (intOf a).toNat)
  case atStart => exact ⟨0, Nat.zero_le _, rfl, Lib.hid (Below.refl _ _)⟩
  case round =>
    obtain ⟨k, hk, rfl, hR⟩ := hrel
    by_cases hlt : k < ns.length
    · have g2 : (k : Int) < (ns.length : Int) := by omega
      have g3 : (0 : Int) ≤ (k : Int) := by omega
      obtain ⟨n, hn⟩ : ∃ n, ns[k]? = some n := ⟨_, List.getElem?_eq_getElem hlt⟩
      obtain ⟨hna, hnk⟩ := HZ.out n (List.mem_of_getElem? hn)
      obtain ⟨ga, aA, ac, kA, kc, rfl, r1, r2, x0, x1, x2, x3, x4, x5, x6, x7, x8, x9, x10⟩ := (TT.out.1.loc hR.out).node hn
      obtain ⟨gb, bA, bc, lA, lc, rfl, r3, r4, y0, y1, y2, y3, y4, y5, y6, y7, y8, y9, y10⟩ := (TT.out.2.loc hR.out).node hn
      have hw : IntKind.i64.wrap ((k : Int) + 1) = (k : Int) + 1 := by have := wrap_small (L := k + 1) (by omega); rwa [show (((k + 1 : Nat) : Int)) = (k : Int) + 1 by omega] at this
      have hbd : Below wr.heap.size wr wr.drew := below_drew (Below.refl _ _)
      have ND := Lib.hid (lNode wr.drew n aA ac kA kc bA bc lA lc hna hnk (r1.loc hbd) (r2.loc hbd) (r3.loc hbd) (r4.loc hbd))
      unfold ndVal at ND
      clear r1 r2 r3 r4 hn hna hnk hbd
      go_wp2_with fail
      go_region_with (go_at_call 152; refine ND.out.mono ?_; rintro e w2 ⟨rfl, hb2⟩)
      all_goals
        clear x0 x1 x2 x3 x4 x5 x6 x7 x8 x9 x10 y0 y1 y2 y3 y4 y5 y6 y7 y8 y9 y10
        go_wp2_with fail
        go_roundw
        case rel => exact ⟨k + 1, by omega, by rfl, Lib.hid (below_step hR.out (below_step (below_drew (Below.refl _ _)) hb2))⟩
        case measure => simp [intOf]; omega
    · obtain rfl : k = ns.length := by omega
      have g2 : ¬ (ns.length : Int) < (ns.length : Int) := by omega
      go_wp2_with fail
      go_ret
      exact ⟨rfl, hR.out⟩
end Go.Proofs.YtjmlkmlbhfkhbaaGreatDoor
namespace Go.Proofs.YtjmlkmlbhfkhbaaGreatDoor
open Go Go.RowKit

/-- Cells that can be read, in a block of nobody's. -/
def VAt (w : World) (c : Col) (A : Option Addr) (xs : List Value) : Prop := xs ≠ [] → ∃ g, A = some ⟨g, 0, none⟩ ∧ (c g).1 = 0 ∧ ∀ (j : Nat) (u : Value), xs[j]? = some u → w.cell? ⟨g, j, none⟩ = some u
theorem VAt.lt {w : World} {xs : List Value} {g : Nat} (hl : xs ≠ []) (h3 : ∀ (j : Nat) (u : Value), xs[j]? = some u → w.cell? ⟨g, j, none⟩ = some u) : g < w.heap.size := by
  cases xs with
  | nil => exact absurd rfl hl
  | cons x r => exact block_lt_of_cell (h3 0 x rfl)
theorem VAt.mv {S : Key → Prop} {w w' : World} {c c' : Col} {A : Option Addr} {xs : List Value} (H : VAt w c A xs) (hm : Mv S w c w' c') (hS : ∀ k, S k → k.1 ≠ 0) : VAt w' c' A xs := by
  intro hl
  obtain ⟨g, h1, h2, h3⟩ := H hl
  have hlt := VAt.lt hl h3
  refine ⟨g, h1, by rw [hm.ext g hlt]; exact h2, fun j u hu => ?_⟩
  rw [World.cell?_of_block (w := w) (hm.blk g hlt (fun hs => hS _ hs h2))]
  exact h3 j u hu
theorem VAt.new {w w1 : World} {c : Col} {e : TypeId} {size : Nat} {A : Option Addr} {n cap : Nat} {xs : List Value} (hg : Good w c) (h : RowNew w.heap.size w1 e size A n cap xs) : VAt w1 c A xs := by
  intro hl
  have hn : 0 < n := by
    rcases Nat.eq_zero_or_pos n with h0 | h0
    · have := h.1
      rw [h0, Nat.zero_mul] at this
      exact absurd (List.eq_nil_of_length_eq_zero this) hl
    · exact h0
  obtain ⟨g, h1, h2, h3, h4, h5⟩ := h.at_ hn
  refine ⟨g, h1, hg g ?_, h4⟩
  unfold newCol at h2
  split at h2
  · assumption
  · cases h2
theorem VAt.rAt {w : World} {c : Col} {A : Option Addr} {xs : List Value} (H : VAt w c A xs) : RAt w A xs := by
  intro hl
  obtain ⟨g, h1, -, h3⟩ := H hl
  exact ⟨g, h1, VAt.lt hl h3, h3⟩

def TreeQ (key : Key) (ns : List Nd) (w : World) (c : Col) (e : Ending) (w' : World) : Prop := ∃ A cap c', e = .returned (.slice A ns.length cap) ∧ TreeR w' A ns ∧ Mv (· = key) w c w' c'

set_option maxRecDepth 100000 in
set_option maxHeartbeats 4000000 in
theorem aTreeR {w : World} {c : Col} {h : Hd} {st : St} (H : BRep w c h st) {N : Nat} (hs : Sz N st) (hN : N ≤ 10000000) {key : Key} (hk : key.1 ≠ h.sd) (hk0 : key.1 ≠ 0) :
    Calls Tryz.prog 53 #[.pointer (some ⟨h.a, 0, none⟩)] w (TreeQ key st.ns w c) := by
  have LEN := Lib.hid (by
    obtain ⟨X, HX⟩ := H
    have hl : X.cs.length = st.ns.length := by rw [← HX.ns]; simp
    have := aLen (HX.av (by have := hs.1; omega))
    rw [hl] at this
    exact this)
  have HK : Hid (∀ W C, Mv (· = key) w c W C → BRep W C h st) := Lib.hid fun W C hm => H.mv hm (fun p i e => hk (by rw [← e]))
  have HZ := Lib.hid hs
  have hlen := hs.1
  obtain ⟨i0, hi0, hz0, hz1, hz2⟩ := info_parts info58
  have HG := Lib.hid H.gd
  clear H hs
  go_enter Tryz.func53, Tryz.ntmps53
  go_wp2_with (go_at_call 95; refine LEN.out.mono ?_; rintro e w2 ⟨rfl, rfl⟩)
  go_loopw [3, 7] (fun a t wr => ∃ (cs : List NdC) (A : Option Addr) (cap : Nat) (c' : Col), a = .slice A cs.length cap ∧ t = .int .i64 cs.length ∧ cs.length ≤ st.ns.length ∧ Hid (cs.map (·.nd) = st.ns.take cs.length ∧ RowOk wr c' key 58 11 A cs.length cap (cs.flatMap NdC.cells) ∧ (∀ (i : Nat) (x : NdC), cs[i]? = some x → VAt wr c' x.aA (attrCells x.nd.attrs) ∧ VAt wr c' x.kA (intCells x.nd.kids)) ∧ Mv (· = key) w c wr c')) (fun _ t _ => st.ns.length - (intOf t).toNat)
  case atStart => exact ⟨[], none, 0, c, rfl, rfl, Nat.zero_le _, Lib.hid ⟨by simp, by exact RowOk.none_, fun i x hx => by simp at hx, Mv.refl _ _ _⟩⟩
  case round =>
    obtain ⟨cs, A, cap, c1, rfl, rfl, hle, hR⟩ := hrel
    by_cases hlt : cs.length < st.ns.length
    · have h1 : (cs.length : Int) < (st.ns.length : Int) := by omega
      obtain ⟨n, hn⟩ : ∃ n, st.ns[cs.length]? = some n := ⟨_, List.getElem?_eq_getElem hlt⟩
      have H1 := HK.out _ _ hR.out.2.2.2
      have ND := Lib.hid (aNodeB H1 HZ.out (by omega) hn)
      have hg1 := Lib.hid H1.gd
      have HNN := Lib.hid hn
      have hw : IntKind.i64.wrap ((cs.length : Int) + 1) = (cs.length : Int) + 1 := by have := wrap_small (L := cs.length + 1) (by omega); rwa [show (((cs.length + 1 : Nat) : Int)) = (cs.length : Int) + 1 by omega] at this
      clear hn H1 hlt
      go_wp2_with fail
      refine ND.out.mono ?_
      rintro e w2 ⟨A2, p1, K2, p2, rfl, hb2, hA, hK⟩
      have KY : Hid (VAt w2 c1 A2 (attrCells n.attrs) ∧ VAt w2 c1 K2 (intCells n.kids)) := Lib.hid ⟨VAt.new hg1.out hA, VAt.new hg1.out hK⟩
      unfold ndVal
      clear hK hA
      go_wp2_with (at_builtin; refine wpList_append_row _ c1 key rfl _ _ 71 rfl 58 i0 _ 11 136 Tryz.underlying71 hi0 hz0 hz1 hz2 rfl (by decide) _ cs.length cap (cs.flatMap NdC.cells) rfl (by exact hR.out.2.1.kp (kp_below (below_alloc hb2 _))) _ 1 1 (NdC.cells { nd := n, aA := A2, acap := p1, kA := K2, kcap := p2 }) rfl (by rfl) (by simp) (by exact news_new _ _ _) (NdC.one _) (by unfold maxLen; omega) (by omega) ?_; intro A3 cp3 w3 c3 hrow3 hmv3)
      obtain ⟨y, hy⟩ : ∃ y : NdC, y = { nd := n, aA := A2, acap := p1, kA := K2, kcap := p2 } := ⟨_, rfl⟩
      have HY : Hid (y.nd = n ∧ y.kA = K2 ∧ y.aA = A2) := Lib.hid (by rw [hy]; exact ⟨rfl, rfl, rfl⟩)
      rw [← hy] at hrow3
      clear hy
      go_roundw
      case rel =>
        have m3 : Mv (· = key) wr c1 w3 c3 := (Mv.of_below (below_alloc hb2 _)).trans hmv3
        refine ⟨cs ++ [y], A3, cp3, c3, by simp, by simp, by simp; omega, Lib.hid ⟨?_, by simpa using hrow3, ?_, hR.out.2.2.2.trans m3⟩⟩
        · rw [List.map_append, hR.out.1, List.length_append, List.length_singleton, List.take_add_one, HNN.out, ← HY.out.1]
          rfl
        · intro i x hx
          by_cases hi : i < cs.length
          · rw [List.getElem?_append_left hi] at hx
            have o := hR.out.2.2.1 i x hx
            exact ⟨o.1.mv m3 (fun k e => by rw [e]; exact hk0), o.2.mv m3 (fun k e => by rw [e]; exact hk0)⟩
          · rw [List.getElem?_append_right (by omega)] at hx
            have h0 : i - cs.length = 0 := by
              have := (List.getElem?_eq_some_iff.1 hx).1
              simp at this; omega
            rw [h0] at hx
            obtain rfl : y = x := by simpa using hx
            rw [HY.out.1, HY.out.2.1, HY.out.2.2]
            have mm := (Mv.of_below (below_alloc (Below.refl w2.heap.size w2) _)).trans hmv3
            exact ⟨KY.out.1.mv mm (fun k e => by rw [e]; exact hk0), KY.out.2.mv mm (fun k e => by rw [e]; exact hk0)⟩
      case measure => simp [intOf]; omega
    · have h1 : ¬ (cs.length : Int) < (st.ns.length : Int) := by omega
      have hl : cs.length = st.ns.length := by omega
      have HL := Lib.hid hl
      go_wp2_with fail
      have T : TreeR wr A st.ns := ⟨cs, by rw [hR.out.1, HL.out, List.take_length], hR.out.2.1.rAt, fun i x hx => ⟨(hR.out.2.2.1 i x hx).1.rAt, (hR.out.2.2.1 i x hx).2.rAt⟩⟩
      go_ret
      exact ⟨A, cap, c1, rfl, T, hR.out.2.2.2⟩

set_option maxHeartbeats 1000000 in
theorem bModes {w : World} {c : Col} {h : Hd} {st : St} (H : BRep w c h st) (hl : st.modes.length ≤ 1000000) :
    Calls Tryz.prog 35 #[.pointer (some ⟨h.b, 0, none⟩)] w fun e w' => ∃ A cap, e = .returned (.slice A st.modes.length cap) ∧ Below w.heap.size w w' ∧ VAt w' c A (intCells st.modes) := by
  have N1 := Lib.hid (bNone H)
  have HG := Lib.hid H.gd
  obtain ⟨X, HX⟩ := H
  obtain ⟨-, -, -, -, -, b5, -⟩ := HX.bc
  have CL := Lib.hid (cloneInts' w X.mA X.mcap st.modes (by omega) HX.modes.src)
  clear HX
  go_enter Tryz.func35, Tryz.ntmps35
  go_wp2_with (go_at_call 63; refine N1.out.mono ?_; rintro e w1 ⟨rfl, rfl⟩)
  refine CL.out.mono ?_
  rintro e w1 ⟨A, cap, rfl, hb1, hr⟩
  have R : VAt w1 c A (intCells st.modes) := VAt.new HG.out hr
  have RH := Lib.hid R
  clear R hr
  go_wp2_with fail
  go_ret
  exact ⟨A, cap, rfl, hb1, RH.out⟩

set_option maxRecDepth 100000 in
set_option maxHeartbeats 4000000 in
theorem bAsk0 {w : World} {c : Col} {h : Hd} {st : St} (H : BRep w c h st) (ha : st.ask = none) :
    Calls Tryz.prog 29 #[.pointer (some ⟨h.b, 0, none⟩)] w fun e w' => e = .returned (.tuple #[.int .i64 0, .string ⟨#[]⟩, .bool false]) ∧ Below w.heap.size w w' := by
  have N1 := Lib.hid (bNone H)
  obtain ⟨X, H⟩ := H
  have q := H.ask
  rw [ha] at q
  have c12 := H.bc.2.2.2.2.2.2.2.2.2.2.2.2.1
  rw [show X.kA = none from q] at c12
  clear H ha q
  go_enter Tryz.func29, Tryz.ntmps29
  go_wp2_with (go_at_call 63; refine N1.out.mono ?_; rintro e w1 ⟨rfl, rfl⟩)
  refine bodyPost_ret (v := .tuple #[.int .i64 0, .string ⟨#[]⟩, .bool false]) (by simp [results, Tryz.results29, go_sem]) rfl ?_
  exact ⟨rfl, Below.refl _ _⟩
end Go.Proofs.YtjmlkmlbhfkhbaaGreatDoor
namespace Go.Proofs.YtjmlkmlbhfkhbaaGreatDoor
open Go Go.RowKit

def askN (st : St) : Int := match st.ask with | some (s, _) => s | none => 0
def askS (st : St) : Str := match st.ask with | some (_, n) => n | none => ⟨#[]⟩

theorem lAsk {w : World} {c : Col} {h : Hd} {st : St} (H : BRep w c h st) :
    Calls Tryz.prog 29 #[.pointer (some ⟨h.b, 0, none⟩)] w (OkB h { st with ask := none } (.tuple #[.int .i64 (askN st), .string (askS st), .bool st.ask.isSome]) w c) := by
  cases ha : st.ask with
  | none =>
    have e : ({ st with ask := none } : St) = st := by cases st; simp only at ha; subst ha; rfl
    rw [e]
    refine (bAsk0 H ha).mono ?_
    rintro e w1 ⟨rfl, hb⟩
    refine ⟨?_, c, H.loc hb, Mv.of_below hb⟩
    unfold askN askS
    rw [ha]
    rfl
  | some p =>
    obtain ⟨s, n⟩ := p
    refine (bAsk H ha).mono ?_
    rintro e w1 ⟨rfl, h1⟩
    refine ⟨?_, h1⟩
    unfold askN askS
    rw [ha]
    rfl

theorem SRepX.treeR {w : World} {c : Col} {h : Sd} {x : SSh} {st : St} (H : SRepX w c h x st) : TreeR w x.nA st.ns :=
  ⟨x.cs, H.ns, H.row.rAt, fun i y hy => ⟨(H.each i y hy).2.rAt, (H.each i y hy).1.rAt⟩⟩
end Go.Proofs.YtjmlkmlbhfkhbaaGreatDoor
namespace Go.Proofs.YtjmlkmlbhfkhbaaGreatDoor
open Go Go.RowKit

def docC : NdC := { nd := docNd, aA := none, acap := 0, kA := none, kcap := 0 }
def shN (g : Nat) : SSh := { nA := some ⟨g, 0, none⟩, ncap := 1, cs := [docC], oA := none, ocap := 0, lA := none, lcap := 0, mA := none, mcap := 0, qs := 0, qn := ⟨#[]⟩ }

theorem newRepS {w : World} {c : Col} (hg : Good w c) {sd : Nat} (hsd : sd ≠ 0) :
    ∃ c', SRep ((w.alloc (.cells docC.cells.toArray 58)).alloc (.cells (sCells (shN w.heap.size) st0).toArray 79)) c' ⟨sd, w.heap.size + 1⟩ st0 ∧
      Mv (fun _ => False) w c ((w.alloc (.cells docC.cells.toArray 58)).alloc (.cells (sCells (shN w.heap.size) st0).toArray 79)) c' := by
  have s1 := Mv.alloc_paint (S := fun _ => False) w c (.cells docC.cells.toArray 58) (sd, 3, 0)
  have b1 := Blk.new w c (sd, 3, 0) 58 docC.cells
  generalize hw2 : w.alloc (.cells docC.cells.toArray 58) = w2 at *
  have z2 : w2.heap.size = w.heap.size + 1 := by rw [← hw2]; simp
  generalize paint c w.heap.size (sd, 3, 0) = c2 at *
  generalize hsc : sCells (shN w.heap.size) st0 = sc
  have s2 := Mv.alloc_paint (S := fun _ => False) w2 c2 (.cells sc.toArray 79) (sd, 1, 0)
  have b12 := b1.kp (kp_alloc_paint w2 c2 (.cells sc.toArray 79) (sd, 3, 0) (sd, 1, 0))
  have b2 := Blk.new w2 c2 (sd, 1, 0) 79 sc
  have hm := s1.trans s2
  refine ⟨_, ⟨shN w.heap.size, ⟨hm.gd hg, hsd, ?_, ?_, ?_, rfl, RowOk.none_, RowOk.none_, RowOk.none_, fun s n e => by cases e⟩⟩, hm⟩
  · rw [z2] at b2
    rw [← hsc] at b2 ⊢
    rw [z2]
    exact b2
  · refine ⟨rfl, .inr ⟨w.heap.size, _, rfl, b12.1, b12.2, Nat.le_refl _, (by simp [maxLen, shN]), rfl, rfl⟩⟩
  · intro i y hy
    rcases i with _ | i
    · simp [shN] at hy
      subst hy
      exact ⟨RowOk.none_, RowOk.none_⟩
    · simp [shN] at hy

set_option maxRecDepth 100000 in
set_option maxHeartbeats 2000000 in
theorem rNew {w : World} {c : Col} (hg : Good w c) {sd : Nat} (hsd : sd ≠ 0) :
    Calls Tryz.prog 54 #[] w fun e w' => ∃ c' h, h.sd = sd ∧ e = .returned (.pointer (some ⟨h.g, 0, none⟩)) ∧ SRep w' c' h st0 ∧ Mv (fun _ => False) w c w' c' := by
  go_enter Tryz.func54, Tryz.ntmps54
  go_wp2_with fail
  go_ret
  obtain ⟨c', hB, hM⟩ := newRepS (w := w) hg hsd
  exact ⟨c', _, rfl, rfl, hB, hM⟩
end Go.Proofs.YtjmlkmlbhfkhbaaGreatDoor
