/-
  The stack's functions: Len, At, Top, Pop, element, Insert at the end, Push.
  The stack's element, Insert at the end, Push; the arena's Node over a builder.
  The stack's Insert at the end, and Push.
  The builder's html, last, Open, target.
  The builder's Place where nothing is fostered, and Put there.
-/
import Derived.Test.YtjmlkmlbhfkhbaaGreatDoorHp05
import Derived.Test.YtjmlkmlbhfkhbaaGreatDoorHp04
import Derived.Test.YtjmlkmlbhfkhbaaGreatDoorHp06
import Derived.Deep.RegionLaw
set_option linter.unusedSimpArgs false
set_option linter.unusedVariables false
namespace Go.Proofs.YtjmlkmlbhfkhbaaGreatDoor
open Go Go.RowKit

theorem OpE.cells_len (x : OpE) : x.cells.length = 3 := rfl
theorem flat3_at : ∀ (l : List OpE) (i j : Nat) (x : OpE), l[i]? = some x → j < 3 → (l.flatMap OpE.cells)[i * 3 + j]? = x.cells[j]?
  | [], i, j, x, hx, hj => by simp at hx
  | y :: l, 0, j, x, hx, hj => by
    simp at hx
    subst hx
    rw [List.flatMap_cons, List.getElem?_append_left (by rw [OpE.cells_len]; omega)]
    simp
  | y :: l, i + 1, j, x, hx, hj => by
    have := flat3_at l i j x (by simpa using hx) hj
    rw [List.flatMap_cons, List.getElem?_append_right (by rw [OpE.cells_len]; omega), OpE.cells_len, ← this]
    congr 1
    omega
theorem flat3_take : ∀ (l : List OpE) (n : Nat), (l.flatMap OpE.cells).take (n * 3) = (l.take n).flatMap OpE.cells
  | [], n => by simp
  | y :: l, 0 => by simp
  | y :: l, n + 1 => by
    rw [List.flatMap_cons, List.take_succ_cons, List.flatMap_cons, ← flat3_take l n, List.take_append, OpE.cells_len, List.take_of_length_le (by rw [OpE.cells_len]; omega)]
    congr 2
    omega

/-- What is to be read of a stack. -/
def SV (w : World) (s a : Nat) (A : Option Addr) (cap : Nat) (stk : List OpE) : Prop :=
  w.cell? ⟨s, 0, none⟩ = some (.pointer (some ⟨a, 0, none⟩)) ∧ w.cell? ⟨s, 1, none⟩ = some (.slice A stk.length cap) ∧ stk.length ≤ 1000000 ∧ stk.length ≤ cap ∧ cap ≤ maxLen ∧
  (0 < stk.length → ∃ g, A = some ⟨g, 0, none⟩ ∧ ∀ k o, stk[k]? = some o → w.cell? ⟨g, k * 3, none⟩ = some (.int .i64 o.node) ∧ w.cell? ⟨g, k * 3 + 1, none⟩ = some (.int .i64 o.space) ∧ w.cell? ⟨g, k * 3 + 2, none⟩ = some (.string o.name))

theorem BRepX.sv {w : World} {c : Col} {h : Hd} {x : Sh} {st : St} (H : BRepX w c h x st) (hl : st.stk.length ≤ 1000000) : SV w h.s h.a x.sA x.scap st.stk := by
  refine ⟨H.hs.cell 0, H.hs.cell 1, hl, H.stk.le, H.stk.capMax, fun h0 => ?_⟩
  obtain ⟨g, hA, -, -, hc, -⟩ := H.stk.at_ h0
  refine ⟨g, hA, fun k o ho => ⟨?_, ?_, ?_⟩⟩
  · exact hc (k * 3 + 0) _ (by rw [flat3_at _ k 0 o ho (by omega)]; rfl)
  · exact hc (k * 3 + 1) _ (by rw [flat3_at _ k 1 o ho (by omega)]; rfl)
  · exact hc (k * 3 + 2) _ (by rw [flat3_at _ k 2 o ho (by omega)]; rfl)

def atOf (stk : List OpE) (k : Int) : Int := if 0 ≤ k then (match stk[k.toNat]? with | some o => o.node | none => -1) else -1
def topOf (stk : List OpE) : Int := atOf stk ((stk.length : Int) - 1)

section
variable {w : World} {s a : Nat} {A : Option Addr} {cap : Nat} {stk : List OpE}

set_option maxHeartbeats 400000 in
theorem sLen (H : SV w s a A cap stk) : Calls Tryz.prog 77 #[.pointer (some ⟨s, 0, none⟩)] w fun e w' => e = .returned (.int .i64 stk.length) ∧ w = w' := by
  have a1 := H.2.1
  clear H
  go_enter Tryz.func77, Tryz.ntmps77
  go_wp2_with fail
  go_ret
  exact ⟨rfl, rfl⟩

set_option maxHeartbeats 400000 in
theorem sNone (H : SV w s a A cap stk) : Calls Tryz.prog 127 #[.pointer (some ⟨s, 0, none⟩)] w fun e w' => e = .returned (.bool false) ∧ w = w' := by
  have a1 := H.1
  clear H
  go_enter Tryz.func127, Tryz.ntmps127
  go_wp2_with fail
  go_ret
  exact ⟨rfl, rfl⟩

set_option maxHeartbeats 400000 in
theorem sAt (H : SV w s a A cap stk) (k : Int) : Calls Tryz.prog 79 #[.pointer (some ⟨s, 0, none⟩), .int .i64 k] w fun e w' => e = .returned (.int .i64 (atOf stk k)) ∧ w = w' := by
  have L := Lib.hid (sLen H)
  by_cases h0 : 0 ≤ k
  · by_cases h1 : k < stk.length
    · obtain ⟨n, rfl⟩ := Int.eq_ofNat_of_zero_le h0
      have hn : n < stk.length := by omega
      obtain ⟨g, rfl, hc⟩ := H.2.2.2.2.2 (by omega)
      obtain ⟨c0, -, -⟩ := hc n _ (List.getElem?_eq_getElem hn)
      have hat : atOf stk (n : Int) = stk[n].node := by unfold atOf; rw [if_pos h0]; simp [hn]
      rw [hat]
      have a1 := H.2.1
      clear H hc hat
      go_enter Tryz.func79, Tryz.ntmps79
      go_wp2_with (go_at_call 77; refine L.out.mono ?_; rintro e w1 ⟨rfl, rfl⟩)
      go_ret
      exact ⟨rfl, rfl⟩
    · have hat : atOf stk k = -1 := by unfold atOf; rw [if_pos h0, List.getElem?_eq_none (by omega)]
      rw [hat]
      clear H hat
      go_enter Tryz.func79, Tryz.ntmps79
      go_wp2_with (go_at_call 77; refine L.out.mono ?_; rintro e w1 ⟨rfl, rfl⟩)
      go_ret
      exact ⟨rfl, rfl⟩
  · have hat : atOf stk k = -1 := by unfold atOf; rw [if_neg h0]
    rw [hat]
    clear H hat
    go_enter Tryz.func79, Tryz.ntmps79
    go_wp2_with fail
    go_ret
    exact ⟨rfl, rfl⟩

set_option maxHeartbeats 400000 in
theorem sTop (H : SV w s a A cap stk) : Calls Tryz.prog 85 #[.pointer (some ⟨s, 0, none⟩)] w fun e w' => e = .returned (.int .i64 (topOf stk)) ∧ w = w' := by
  have L := Lib.hid (sLen H)
  have T := Lib.hid (sAt H ((stk.length : Int) - 1))
  have hl := H.2.2.1
  clear H
  go_enter Tryz.func85, Tryz.ntmps85
  go_wp2_with (first | (go_at_call 77; refine L.out.mono ?_; rintro e w1 ⟨rfl, rfl⟩) | (go_at_call 79; refine T.out.mono ?_; rintro e w1 ⟨rfl, rfl⟩))
  go_ret
  exact ⟨rfl, rfl⟩
end

set_option maxHeartbeats 1000000 in
theorem sPop {w : World} {c : Col} {h : Hd} {st : St} (H : BRep w c h st) (hl : st.stk.length ≤ 1000000) :
    Calls Tryz.prog 61 #[.pointer (some ⟨h.s, 0, none⟩)] w (OkB h { st with stk := st.stk.dropLast } (.int .i64 (topOf st.stk)) w c) := by
  obtain ⟨X, H⟩ := H
  have V := H.sv hl
  have L := Lib.hid (sLen V)
  have T := Lib.hid (sTop V)
  have a1 := V.2.1
  have f1 : w.frozen? ⟨h.s, 1, none⟩ = false := H.hs.frozen 1
  have hle := V.2.2.2.1
  have hmx := V.2.2.2.2.1
  unfold maxLen at hmx
  by_cases h0 : 0 < st.stk.length
  · have hi0 : (0 : Int) ≤ (st.stk.length : Int) - 1 := by omega
    have hi2 : (st.stk.length : Int) - 1 ≤ (X.scap : Int) := by omega
    have hcut := H.stk.cut (m := st.stk.length - 1) (by omega)
    rw [flat3_take] at hcut
    have hdl : st.stk.take (st.stk.length - 1) = st.stk.dropLast := (List.dropLast_eq_take).symm
    have hll : st.stk.length - 1 = st.stk.dropLast.length := by simp
    rw [hdl, hll] at hcut
    have SS := Lib.hid (setStk H hcut (Mv.refl _ _ _))
    have HLL := Lib.hid hll
    clear V H hcut hdl hll
    go_enter Tryz.func61, Tryz.ntmps61
    go_wp2_with (first | (go_at_call 77; refine L.out.mono ?_; rintro e w1 ⟨rfl, rfl⟩) | (go_at_call 85; refine T.out.mono ?_; rintro e w1 ⟨rfl, rfl⟩))
    go_ret
    rw [HLL.out]
    exact ⟨rfl, c, ⟨_, SS.out.1⟩, SS.out.2⟩
  · have hnil : st.stk = [] := List.eq_nil_of_length_eq_zero (by omega)
    have HN := Lib.hid hnil
    have HB := Lib.hid (show BRep w c h st from ⟨X, H⟩)
    clear V H hnil
    go_enter Tryz.func61, Tryz.ntmps61
    go_wp2_with (first | (go_at_call 77; refine L.out.mono ?_; rintro e w1 ⟨rfl, rfl⟩) | (go_at_call 85; refine T.out.mono ?_; rintro e w1 ⟨rfl, rfl⟩))
    go_ret
    refine ⟨rfl, c, ?_, Mv.refl _ _ _⟩
    have e : { st with stk := st.stk.dropLast } = st := by
      have := HN.out
      cases st
      simp only at this
      subst this
      rfl
    rw [e]
    exact HB.out

end Go.Proofs.YtjmlkmlbhfkhbaaGreatDoor
namespace Go.Proofs.YtjmlkmlbhfkhbaaGreatDoor
open Go Go.RowKit

/-- The numbers that bound a state. -/
def Sz (N : Nat) (st : St) : Prop := st.ns.length ≤ N ∧ st.ns.length ≠ 0 ∧ (∀ (i : Nat) (n : Nd), st.ns[i]? = some n → n.attrs.length ≤ N ∧ n.kids.length ≤ N ∧ n.text.size ≤ N)

def ndVal (n : Nd) (A : Option Addr) (c1 : Nat) (K : Option Addr) (c2 : Nat) : Value :=
  .agg #[.int .i64 n.kind, .string n.name, .string n.text, .int .i64 n.space, .slice A n.attrs.length c1, .bool n.dup, .int .i64 n.parent, .int .i64 n.content, .slice K n.kids.length c2, .int .i64 n.frm, .int .i64 n.to_]

/-- Node of a builder's arena. -/
theorem aNodeB {w : World} {c : Col} {h : Hd} {st : St} (H : BRep w c h st) {N : Nat} (hs : Sz N st) (hN : N ≤ 100000000) {i : Nat} {n : Nd} (hi : st.ns[i]? = some n) :
    Calls Tryz.prog 72 #[.pointer (some ⟨h.a, 0, none⟩), .int .i64 i] w fun e w' => ∃ A c1 K c2, e = .returned (ndVal n A c1 K c2) ∧
      Below w.heap.size w w' ∧ RowNew w.heap.size w' 84 2 A n.attrs.length c1 (attrCells n.attrs) ∧ RowNew w.heap.size w' 3 1 K n.kids.length c2 (intCells n.kids) := by
  obtain ⟨X, H⟩ := H
  obtain ⟨y, hy, rfl⟩ := H.nodeOf hi
  have h1 := hs.2.2 i y.nd hi
  exact aNode (H.av (by have := hs.1; omega)) hy (by omega) (by omega) (H.nodes.each i y hy).2.src (H.nodes.each i y hy).1.src

set_option maxHeartbeats 1000000 in
theorem sElement {w : World} {c : Col} {h : Hd} {st : St} (H : BRep w c h st) {N : Nat} (hs : Sz N st) (hN : N ≤ 100000000) (hl : st.stk.length ≤ 1000000) {i : Nat} {n : Nd} (hi : st.ns[i]? = some n) (hk : n.kind = 3) :
    Calls Tryz.prog 168 #[.pointer (some ⟨h.s, 0, none⟩), .int .i64 i] w fun e w' => e = .returned (.tuple #[.agg #[.int .i64 i, .int .i64 n.space, .string n.name], .int .i64 0]) ∧ Below w.heap.size w w' := by
  have H1 := H.loc (below_alloc (Below.refl w.heap.size w) (.cells #[.int .i64 0, .int .i64 0, .string ⟨#[]⟩] 133))
  have ND := Lib.hid (aNodeB H1 hs hN hi)
  have hls := H1.choose_spec.hs.lt
  obtain ⟨X, H1⟩ := H1
  have N1 := Lib.hid (sNone (H1.sv hl))
  have a0 := (H1.sv hl).1
  clear H H1 hs hi
  go_enter Tryz.func168, Tryz.ntmps168
  go_wp2_with (first | (go_at_call 127; refine N1.out.mono ?_; rintro e w1 ⟨rfl, rfl⟩))
  refine ND.out.mono ?_
  rintro e w1 ⟨A, c1, K, c2, rfl, hb1, -, -⟩
  have H4 : HB w1 w.heap.size 133 [.int .i64 0, .int .i64 0, .string ⟨#[]⟩] := by
    refine HB.below ?_ hb1
    exact HB.new w 133 _
  have d0 := H4.cell 0
  have d1 := H4.cell 1
  have d2 := H4.cell 2
  have f0 := H4.frozen
  have hz := H4.lt
  simp only [List.getElem?_cons_zero, List.getElem?_cons_succ] at d0 d1 d2
  have hk' : (n.kind != 3) = false := by simp [hk]
  unfold ndVal
  clear H4 hk a0
  go_wp2_with fail
  refine bodyPost_ret (v := .tuple #[.agg #[.int .i64 i, .int .i64 n.space, .string n.name], .int .i64 0]) ?_ rfl ?_
  · simp [results, Tryz.results168, go_sem, d0, d1, d2, hz]
  · refine ⟨rfl, ?_⟩
    repeat (first | refine Below.alloc ?_ (by simp; omega) _ | refine Below.setCell ?_ (by simp) _)
    exact below_step (below_alloc (Below.refl _ _) _) hb1

end Go.Proofs.YtjmlkmlbhfkhbaaGreatDoor
namespace Go.Proofs.YtjmlkmlbhfkhbaaGreatDoor
open Go Go.RowKit

theorem BRepX.keepSt {S : Key → Prop} {w w2 : World} {c c2 : Col} {h : Hd} {x : Sh} {st : St} (H : BRepX w c h x st) (hm : Mv S w c w2 c2) (h2 : ¬ S (h.sd, 6, 0)) :
    w2.cell? ⟨h.s, 1, none⟩ = some (.slice x.sA st.stk.length x.scap) ∧ w2.frozen? ⟨h.s, 1, none⟩ = false ∧ h.s < w2.heap.size := by
  have ha := H.hs.kp (hm.kp h2)
  exact ⟨ha.cell 1, ha.frozen 1, ha.lt⟩

set_option maxRecDepth 100000 in
set_option maxHeartbeats 4000000 in
theorem sInsert {w : World} {c : Col} {h : Hd} {st : St} (H : BRep w c h st) {N : Nat} (hs : Sz N st) (hN : N ≤ 100000000) (hl : st.stk.length < 512) {i : Nat} {n : Nd} (hi : st.ns[i]? = some n) (hk : n.kind = 3) :
    Calls Tryz.prog 135 #[.pointer (some ⟨h.s, 0, none⟩), .int .i64 st.stk.length, .int .i64 i] w (OkB h { st with stk := st.stk ++ [⟨i, n.space, n.name⟩] } (.int .i64 0) w c) := by
  have EL := Lib.hid (sElement H hs hN (by omega) hi hk)
  obtain ⟨X, H⟩ := H
  have hls := H.hs.lt
  have a1 : w.cell? ⟨h.s, 1, none⟩ = some (.slice X.sA st.stk.length X.scap) := H.hs.cell 1
  have h0 : (0 : Int) ≤ (st.stk.length : Int) := by omega
  have h1 : (st.stk.length : Int) < 512 := by omega
  clear hs hi hk
  go_enter Tryz.func135, Tryz.ntmps135
  go_wp2_with fail
  refine EL.out.mono ?_
  rintro e w1 ⟨rfl, hb1⟩
  obtain ⟨k1, k2, k3⟩ := H.keepSt (Mv.of_below (S := fun _ => False) hb1) id
  clear a1
  go_wp2_with fail
  go_region_law (go_simp; go_at_call 169; (refine Calls.mono (insOpen (k := (h.sd, 7, 0)) (by exact H.stk.kp (kp_below (below_drew (below_alloc (below_alloc hb1 _) _)))) ⟨(i : Int), n.space, n.name⟩ (by exact HB.at_ (by simp)) (by omega)) ?_; rintro e w2 ⟨A2, cp2, c2, rfl, hrow2, hmv2⟩; obtain ⟨m1, m2, m3⟩ := H.keepSt ((Mv.of_below (S := (· = (h.sd, 7, 0))) (below_drew (below_alloc (below_alloc hb1 _) _))).trans hmv2) (by simp)))
  all_goals
    go_wp2_with fail
    go_ret
    have hm0 : Mv (· = (h.sd, 7, 0)) w c w2 c2 := Mv.trans (Mv.of_below (below_drew (below_alloc (below_alloc hb1 _) _))) hmv2
    have hrow3 : RowOk w2 c2 (h.sd, 7, 0) 133 3 A2 (st.stk ++ [(⟨(i : Int), n.space, n.name⟩ : OpE)]).length cp2 ((st.stk ++ [(⟨(i : Int), n.space, n.name⟩ : OpE)]).flatMap OpE.cells) := by simpa using hrow2
    have SS := setStk H hrow3 hm0
    rw [show (st.stk ++ [(⟨(i : Int), n.space, n.name⟩ : OpE)]).length = st.stk.length + 1 by simp] at SS
    exact ⟨rfl, c2, ⟨_, SS.1⟩, SS.2⟩

set_option maxHeartbeats 1000000 in
theorem sPush {w : World} {c : Col} {h : Hd} {st : St} (H : BRep w c h st) {N : Nat} (hs : Sz N st) (hN : N ≤ 100000000) (hl : st.stk.length < 512) {i : Nat} {n : Nd} (hi : st.ns[i]? = some n) (hk : n.kind = 3) :
    Calls Tryz.prog 88 #[.pointer (some ⟨h.s, 0, none⟩), .int .i64 i] w (OkB h { st with stk := st.stk ++ [⟨i, n.space, n.name⟩] } (.int .i64 0) w c) := by
  have IN := Lib.hid (sInsert H hs hN hl hi hk)
  obtain ⟨X, H⟩ := H
  have L := Lib.hid (sLen (H.sv (by omega)))
  clear H hs hi hk
  go_enter Tryz.func88, Tryz.ntmps88
  go_wp2_with (first | (go_at_call 77; refine L.out.mono ?_; rintro e w1 ⟨rfl, rfl⟩) | (go_at_call 135; refine IN.out.mono ?_; rintro e w1 ⟨rfl, c1, H1, hm1⟩))
  go_ret
  exact ⟨rfl, c1, H1, hm1⟩

end Go.Proofs.YtjmlkmlbhfkhbaaGreatDoor
namespace Go.Proofs.YtjmlkmlbhfkhbaaGreatDoor
open Go Go.RowKit

def htmlN (n : Nd) (ns : List Str) : Bool := decide (n.kind = 3) && decide (n.space = 0) && inS ns n.name

theorem Strs.drew {w : World} {g : Nat} {ns : List Str} (h : Strs w g ns) : Strs w.drew g ns := h
theorem Strs.below {w w' : World} {g : Nat} {ns : List Str} (h : Strs w g ns) (hb : Below w.heap.size w w') : Strs w' g ns := by
  intro j s hs
  have := h j s hs
  rw [hb.cell (block_lt_of_cell this)]
  exact this

set_option maxHeartbeats 1000000 in
theorem bHtml (w : World) (n : Nd) (A : Option Addr) (c1 : Nat) (K : Option Addr) (c2 : Nat) (g cap : Nat) (ns : List Str) (hlen : ns.length ≤ 1000) (hs : Strs w g ns) :
    Calls Tryz.prog 81 #[ndVal n A c1 K c2, .slice (some ⟨g, 0, none⟩) ns.length cap] w fun e w' => e = .returned (.bool (htmlN n ns)) ∧ Below w.heap.size w w' := by
  have hs1 := hs.below (below_alloc (Below.refl w.heap.size w) (.cells #[.int .i64 n.kind, .string n.name, .string n.text, .int .i64 n.space, .slice A n.attrs.length c1, .bool n.dup, .int .i64 n.parent, .int .i64 n.content, .slice K n.kids.length c2, .int .i64 n.frm, .int .i64 n.to_] 58))
  have C := Lib.hid (sContains _ g cap ns n.name hlen hs1)
  clear hs hs1
  unfold ndVal
  by_cases hk : n.kind = 3
  · have hk' : (n.kind == 3) = true := by simp [hk]
    by_cases hsp : n.space = 0
    · have hsp' : (n.space == 0) = true := by simp [hsp]
      have HK := Lib.hid (And.intro hk hsp)
      clear hk hsp
      go_enter Tryz.func81, Tryz.ntmps81
      go_wp2_with (go_at_call 130; refine C.out.mono ?_; rintro e w1 ⟨rfl, rfl⟩)
      go_ret
      exact ⟨ret_bool (by unfold htmlN; rw [decide_eq_true HK.out.1, decide_eq_true HK.out.2]; rfl), below_alloc (Below.refl _ _) _⟩
    · have hsp' : (n.space == 0) = false := by simp [hsp]
      have HK := Lib.hid (And.intro hk hsp)
      clear hk hsp
      go_enter Tryz.func81, Tryz.ntmps81
      go_wp2_with fail
      go_ret
      exact ⟨ret_bool (by unfold htmlN; rw [decide_eq_true HK.out.1, decide_eq_false HK.out.2]; rfl), below_alloc (Below.refl _ _) _⟩
  · have hk' : (n.kind == 3) = false := by simp [hk]
    have HK := Lib.hid hk
    clear hk
    go_enter Tryz.func81, Tryz.ntmps81
    go_wp2_with fail
    go_ret
    exact ⟨ret_bool (by unfold htmlN; rw [decide_eq_false HK.out]; rfl), below_alloc (Below.refl _ _) _⟩

def topD (stk : List OpE) : Int := if topOf stk < 0 then 0 else topOf stk

set_option maxHeartbeats 400000 in
theorem bTarget {w : World} {c : Col} {h : Hd} {st : St} (H : BRep w c h st) (hl : st.stk.length ≤ 1000000) :
    Calls Tryz.prog 66 #[.pointer (some ⟨h.b, 0, none⟩)] w fun e w' => e = .returned (.int .i64 (topD st.stk)) ∧ w = w' := by
  obtain ⟨X, H⟩ := H
  obtain ⟨b0, b1, -⟩ := H.bc
  have T := Lib.hid (sTop (H.sv hl))
  clear H
  go_enter Tryz.func66, Tryz.ntmps66
  go_wp2_with (go_at_call 85; refine T.out.mono ?_; rintro e w1 ⟨rfl, rfl⟩)
  all_goals go_ret
  all_goals exact ⟨ret_int (by unfold topD; split <;> omega), rfl⟩

/-- What an open element is of the nodes. -/
def OpenOk (st : St) : Prop := ∀ (k : Nat) (o : OpE), st.stk[k]? = some o → ∃ (i : Nat) (n : Nd), o.node = i ∧ st.ns[i]? = some n ∧ n.kind = 3 ∧ n.space = o.space ∧ n.name = o.name

def isH (o : OpE) (ns : List Str) : Bool := decide (o.space = 0) && inS ns o.name
def lastFrom (stk : List OpE) (ns : List Str) : Nat → Int
  | 0 => -1
  | k + 1 => match stk[k]? with
    | some o => if isH o ns then k else lastFrom stk ns k
    | none => lastFrom stk ns k
def lastOf (stk : List OpE) (ns : List Str) : Int := lastFrom stk ns stk.length

set_option maxRecDepth 100000 in
set_option maxHeartbeats 4000000 in
theorem bLast {w : World} {c : Col} {h : Hd} {st : St} (H : BRep w c h st) {N : Nat} (hs : Sz N st) (hN : N ≤ 100000000) (hl : st.stk.length ≤ 1000000) (hop : OpenOk st) (name : Str) :
    Calls Tryz.prog 86 #[.pointer (some ⟨h.b, 0, none⟩), .string name] w fun e w' => e = .returned (.int .i64 (lastOf st.stk [name])) ∧ Below w.heap.size w w' := by
  have L := Lib.hid (sLen (H.choose_spec.sv hl))
  obtain ⟨b0, b1, -⟩ := H.choose_spec.bc
  have HH := Lib.hid H
  have HS := Lib.hid hs
  have HO := Lib.hid hop
  have hbl := H.choose_spec.hb.lt
  clear H hs hop
  go_enter Tryz.func86, Tryz.ntmps86
  go_wp2_with (go_at_call 77; refine L.out.mono ?_; rintro e w1 ⟨rfl, rfl⟩)
  go_loopw [5] (fun t wr => ∃ k : Nat, k ≤ st.stk.length ∧ t = .int .i64 ((k : Int) - 1) ∧ Hid (lastFrom st.stk [name] k = lastOf st.stk [name]) ∧ Below w.heap.size w wr) (fun t _ => (intOf t + 1).toNat)
  case atStart => exact ⟨st.stk.length, Nat.le_refl _, rfl, Lib.hid rfl, Below.refl _ _⟩
  case round =>
    obtain ⟨k, hk, rfl, hlf, hb⟩ := hrel
    by_cases h0 : 0 < k
    · obtain ⟨k, rfl⟩ : ∃ m, k = m + 1 := ⟨k - 1, by omega⟩
      have Hr := HH.out.loc hb
      obtain ⟨o, ho⟩ : ∃ o, st.stk[k]? = some o := ⟨st.stk[k], List.getElem?_eq_getElem (by omega)⟩
      obtain ⟨i, n, e1, e2, e3, e4, e5⟩ := HO.out k o ho
      have AT := Lib.hid (fun (W : World) (hW : Below w.heap.size w W) => sAt ((HH.out.loc hW).choose_spec.sv hl) (k : Int))
      have e6 : atOf st.stk (k : Int) = (i : Int) := by unfold atOf; rw [if_pos (by omega)]; simp [ho, e1]
      rw [e6] at AT
      obtain ⟨c0, c1, -⟩ := Hr.choose_spec.bc
      have hbr : h.b < wr.heap.size := Nat.lt_of_lt_of_le hbl hb.size
      have e7 : ((k + 1 : Nat) : Int) - 1 = (k : Int) := by omega
      have E := Lib.hid (And.intro ho (And.intro e3 (And.intro e4 e5)))
      have E2 := Lib.hid e2
      rw [e7]
      have h0' : (0 : Int) ≤ (k : Int) := by omega
      clear ho e1 e2 e3 e4 e5 e6 e7 b0 b1
      have hlast : lastFrom st.stk [name] (k + 1) = if htmlN n [name] then (k : Int) else lastFrom st.stk [name] k := by
        have h1 : htmlN n [name] = isH o [name] := by unfold htmlN isH; rw [E.out.2.1, E.out.2.2.1, E.out.2.2.2]; rfl
        rw [h1]
        show (match st.stk[k]? with | some o => if isH o [name] then (k : Int) else lastFrom st.stk [name] k | none => lastFrom st.stk [name] k) = _
        rw [E.out.1]
      have HLS := Lib.hid hlast
      clear hlast
      go_wp2_with fail
      have KEEP : Hid (∀ W, Below w.heap.size w W → W.cell? ⟨h.b, 0, none⟩ = some (.pointer (some ⟨h.a, 0, none⟩)) ∧ W.cell? ⟨h.b, 1, none⟩ = some (.pointer (some ⟨h.s, 0, none⟩)) ∧ Below w.heap.size w W) := Lib.hid fun W hW => by
        obtain ⟨x0, x1, -⟩ := (HH.out.loc hW).choose_spec.bc
        exact ⟨x0, x1, hW⟩
      go_region_held3 (fun w' => w'.cell? ⟨h.b, 0, none⟩ = some (.pointer (some ⟨h.a, 0, none⟩)) ∧ w'.cell? ⟨h.b, 1, none⟩ = some (.pointer (some ⟨h.s, 0, none⟩)) ∧ Below w.heap.size w w')
        (first | exact KEEP.out _ (below_drew hb) | (go_split_ands; refine KEEP.out _ ?_; first | assumption | exact below_alloc (by assumption) _ | exact below_step (by assumption) (by assumption)))
        (first
        | (go_at_call 79; refine Calls.mono (AT.out _ (by first | exact below_drew hb | exact below_drew (below_alloc hb _))) ?_; rintro e w1 ⟨rfl, rfl⟩)
        | (go_at_call 72; refine Calls.mono (aNodeB (HH.out.loc (by first | exact below_drew hb | exact below_drew (below_alloc hb _))) HS.out hN E2.out) ?_; rintro e w2 ⟨A, c1, K, c2, rfl, hb2, -, -⟩)
        | (go_at_call 81; refine Calls.mono (bHtml _ n A c1 K c2 _ 1 [name] (by simp) (by first | exact Strs.mk_ _ (by simp) | exact (Strs.drew (Strs.mk_ (w := wr) [name] rfl)).below hb2)) ?_; rintro e w3 ⟨rfl, hb3⟩))
      all_goals
        cases hq : htmlN n [name]
        · have HQ := Lib.hid hq
          go_split_ands
          go_wp2_with fail
          go_roundw
          case rel =>
            refine ⟨k, by omega, rfl, Lib.hid ?_, by assumption⟩
            rw [← hlf.out, HLS.out, HQ.out]
            rfl
          case measure => simp [intOf]
        · have HQ := Lib.hid hq
          go_split_ands
          go_wp2_with fail
          go_ret
          exact ⟨ret_int (by rw [← hlf.out, HLS.out, HQ.out]; rfl), by assumption⟩
    · obtain rfl : k = 0 := by omega
      clear b0 b1
      go_wp2_with fail
      go_ret
      exact ⟨ret_int (by rw [← hlf.out]; rfl), hb⟩

set_option maxHeartbeats 400000 in
theorem bOpen {w : World} {c : Col} {h : Hd} {st : St} (H : BRep w c h st) {N : Nat} (hs : Sz N st) (hN : N ≤ 100000000) (hl : st.stk.length ≤ 1000000) (hop : OpenOk st) (name : Str) :
    Calls Tryz.prog 44 #[.pointer (some ⟨h.b, 0, none⟩), .string name] w fun e w' => e = .returned (.bool (decide (0 ≤ lastOf st.stk [name]))) ∧ Below w.heap.size w w' := by
  have N1 := Lib.hid (bNone H)
  have L1 := Lib.hid (bLast H hs hN hl hop name)
  clear H hs hop
  go_enter Tryz.func44, Tryz.ntmps44
  go_wp2_with (first | (go_at_call 63; refine N1.out.mono ?_; rintro e w1 ⟨rfl, rfl⟩) | (go_at_call 86; refine L1.out.mono ?_; rintro e w1 ⟨rfl, hb1⟩))
  go_ret
  exact ⟨rfl, hb1⟩

end Go.Proofs.YtjmlkmlbhfkhbaaGreatDoor
namespace Go.Proofs.YtjmlkmlbhfkhbaaGreatDoor
open Go Go.RowKit

def placeOf (t : Nat) (n : Nd) : Int := if htmlN n [nTemplate] then n.content else (t : Int)

set_option maxHeartbeats 2000000 in
theorem bPlace {w : World} {c : Col} {h : Hd} {st : St} (H : BRep w c h st) {N : Nat} (hs : Sz N st) (hN : N ≤ 100000000) (hf : st.foster = false) {t : Nat} {n : Nd} (hi : st.ns[t]? = some n) :
    Calls Tryz.prog 28 #[.pointer (some ⟨h.b, 0, none⟩), .int .i64 t] w fun e w' => e = .returned (.tuple #[.int .i64 (placeOf t n), .int .i64 (-1)]) ∧ Below w.heap.size w w' := by
  have N1 := Lib.hid (bNone H)
  have ND := Lib.hid (aNodeB H hs hN hi)
  obtain ⟨b0, b1, b2, b3, b4, b5, b6, b7, b8, b9, -⟩ := H.choose_spec.bc
  rw [hf] at b9
  clear b3 b4 b5 b6 b7 b8 H hs hi hf
  cases hq : htmlN n [nTemplate]
  · have HQ := Lib.hid hq
    go_enter Tryz.func28, Tryz.ntmps28
    go_wp2_with (first
      | (go_at_call 63; refine N1.out.mono ?_; rintro e w1 ⟨rfl, rfl⟩)
      | (go_at_call 72; refine ND.out.mono ?_; rintro e w2 ⟨A, c1, K, c2, rfl, hb2, -, -⟩; unfold ndVal)
      | (go_at_call 81; refine Calls.mono (bHtml _ n A c1 K c2 _ 1 [nTemplate] (by simp) (by exact Strs.mk_ _ (by simp))) ?_; rintro e w3 ⟨rfl, hb3⟩))
    refine bodyPost_ret (results_tmp2 rfl _ _ _) rfl ?_
    refine ⟨?_, below_step (below_alloc (below_alloc hb2 _) _) hb3⟩
    have e : placeOf t n = (t : Int) := by unfold placeOf; rw [HQ.out]; rfl
    rw [e]
    rfl
  · have HQ := Lib.hid hq
    go_enter Tryz.func28, Tryz.ntmps28
    go_wp2_with (first
      | (go_at_call 63; refine N1.out.mono ?_; rintro e w1 ⟨rfl, rfl⟩)
      | (go_at_call 72; refine ND.out.mono ?_; rintro e w2 ⟨A, c1, K, c2, rfl, hb2, -, -⟩; unfold ndVal)
      | (go_at_call 81; refine Calls.mono (bHtml _ n A c1 K c2 _ 1 [nTemplate] (by simp) (by exact Strs.mk_ _ (by simp))) ?_; rintro e w3 ⟨rfl, hb3⟩; have hcc : w3.cell? ⟨w2.heap.size, 7, none⟩ = some (.int .i64 n.content) := (HB.below (HB.alloc (HB.new w2 58 [.int .i64 n.kind, .string n.name, .string n.text, .int .i64 n.space, .slice A n.attrs.length c1, .bool n.dup, .int .i64 n.parent, .int .i64 n.content, .slice K n.kids.length c2, .int .i64 n.frm, .int .i64 n.to_]) _) hb3).cell 7))
    refine bodyPost_ret (results_tmp2 rfl _ _ _) rfl ?_
    refine ⟨?_, below_step (below_alloc (below_alloc hb2 _) _) hb3⟩
    have e : placeOf t n = n.content := by unfold placeOf; rw [HQ.out]; rfl
    rw [e]
    rfl

end Go.Proofs.YtjmlkmlbhfkhbaaGreatDoor
