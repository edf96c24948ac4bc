/-
  The builder's html, last, Open, target.
-/
import Derived.Test.YtjmlkmlbhfkhbaaGreatDoorSt3
namespace Go.Proofs.YtjmlkmlbhfkhbaaGreatDoor
open Go Go.RowKit

def htmlN (n : Nd) (ns : List Str) : Bool := decide (n.kind = 3) && decide (n.space = 0) && inS ns n.name

theorem Strs.drew {w : World} {g : Nat} {ns : List Str} (h : Strs w g ns) : Strs w.drew g ns := h
theorem Strs.below {w w' : World} {g : Nat} {ns : List Str} (h : Strs w g ns) (hb : Below w.heap.size w w') : Strs w' g ns := by
  intro j s hs
  have := h j s hs
  rw [hb.cell (block_lt_of_cell this)]
  exact this

set_option maxHeartbeats 1000000 in
theorem bHtml (w : World) (n : Nd) (A : Option Addr) (c1 : Nat) (K : Option Addr) (c2 : Nat) (g cap : Nat) (ns : List Str) (hlen : ns.length ≤ 1000) (hs : Strs w g ns) :
    Calls Tryz.prog 81 #[ndVal n A c1 K c2, .slice (some ⟨g, 0, none⟩) ns.length cap] w fun e w' => e = .returned (.bool (htmlN n ns)) ∧ Below w.heap.size w w' := by
  have hs1 := hs.below (below_alloc (Below.refl w.heap.size w) (.cells #[.int .i64 n.kind, .string n.name, .string n.text, .int .i64 n.space, .slice A n.attrs.length c1, .bool n.dup, .int .i64 n.parent, .int .i64 n.content, .slice K n.kids.length c2, .int .i64 n.frm, .int .i64 n.to_] 58))
  have C := Lib.hid (sContains _ g cap ns n.name hlen hs1)
  clear hs hs1
  unfold ndVal
  by_cases hk : n.kind = 3
  · have hk' : (n.kind == 3) = true := by simp [hk]
    by_cases hsp : n.space = 0
    · have hsp' : (n.space == 0) = true := by simp [hsp]
      have HK := Lib.hid (And.intro hk hsp)
      clear hk hsp
      go_enter Tryz.func81, Tryz.ntmps81
      go_wp2_with (go_at_call 130; refine C.out.mono ?_; rintro e w1 ⟨rfl, rfl⟩)
      go_ret
      exact ⟨ret_bool (by unfold htmlN; rw [decide_eq_true HK.out.1, decide_eq_true HK.out.2]; rfl), below_alloc (Below.refl _ _) _⟩
    · have hsp' : (n.space == 0) = false := by simp [hsp]
      have HK := Lib.hid (And.intro hk hsp)
      clear hk hsp
      go_enter Tryz.func81, Tryz.ntmps81
      go_wp2_with fail
      go_ret
      exact ⟨ret_bool (by unfold htmlN; rw [decide_eq_true HK.out.1, decide_eq_false HK.out.2]; rfl), below_alloc (Below.refl _ _) _⟩
  · have hk' : (n.kind == 3) = false := by simp [hk]
    have HK := Lib.hid hk
    clear hk
    go_enter Tryz.func81, Tryz.ntmps81
    go_wp2_with fail
    go_ret
    exact ⟨ret_bool (by unfold htmlN; rw [decide_eq_false HK.out]; rfl), below_alloc (Below.refl _ _) _⟩

def topD (stk : List OpE) : Int := if topOf stk < 0 then 0 else topOf stk

set_option maxHeartbeats 400000 in
theorem bTarget {w : World} {c : Col} {h : Hd} {st : St} (H : BRep w c h st) (hl : st.stk.length ≤ 1000000) :
    Calls Tryz.prog 66 #[.pointer (some ⟨h.b, 0, none⟩)] w fun e w' => e = .returned (.int .i64 (topD st.stk)) ∧ w = w' := by
  obtain ⟨X, H⟩ := H
  obtain ⟨b0, b1, -⟩ := H.bc
  have T := Lib.hid (sTop (H.sv hl))
  clear H
  go_enter Tryz.func66, Tryz.ntmps66
  go_wp2_with (go_at_call 85; refine T.out.mono ?_; rintro e w1 ⟨rfl, rfl⟩)
  all_goals go_ret
  all_goals exact ⟨ret_int (by unfold topD; split <;> omega), rfl⟩

/-- What an open element is of the nodes. -/
def OpenOk (st : St) : Prop := ∀ (k : Nat) (o : OpE), st.stk[k]? = some o → ∃ (i : Nat) (n : Nd), o.node = i ∧ st.ns[i]? = some n ∧ n.kind = 3 ∧ n.space = o.space ∧ n.name = o.name

def isH (o : OpE) (ns : List Str) : Bool := decide (o.space = 0) && inS ns o.name
def lastFrom (stk : List OpE) (ns : List Str) : Nat → Int
  | 0 => -1
  | k + 1 => match stk[k]? with
    | some o => if isH o ns then k else lastFrom stk ns k
    | none => lastFrom stk ns k
def lastOf (stk : List OpE) (ns : List Str) : Int := lastFrom stk ns stk.length

set_option maxRecDepth 100000 in
set_option maxHeartbeats 4000000 in
theorem bLast {w : World} {c : Col} {h : Hd} {st : St} (H : BRep w c h st) {N : Nat} (hs : Sz N st) (hN : N ≤ 100000000) (hl : st.stk.length ≤ 1000000) (hop : OpenOk st) (name : Str) :
    Calls Tryz.prog 86 #[.pointer (some ⟨h.b, 0, none⟩), .string name] w fun e w' => e = .returned (.int .i64 (lastOf st.stk [name])) ∧ Below w.heap.size w w' := by
  have L := Lib.hid (sLen (H.choose_spec.sv hl))
  obtain ⟨b0, b1, -⟩ := H.choose_spec.bc
  have HH := Lib.hid H
  have HS := Lib.hid hs
  have HO := Lib.hid hop
  have hbl := H.choose_spec.hb.lt
  clear H hs hop
  go_enter Tryz.func86, Tryz.ntmps86
  go_wp2_with (go_at_call 77; refine L.out.mono ?_; rintro e w1 ⟨rfl, rfl⟩)
  go_loopw [5] (fun t wr => ∃ k : Nat, k ≤ st.stk.length ∧ t = .int .i64 ((k : Int) - 1) ∧ Hid (lastFrom st.stk [name] k = lastOf st.stk [name]) ∧ Below w.heap.size w wr) (fun t _ => (intOf t + 1).toNat)
  case atStart => exact ⟨st.stk.length, Nat.le_refl _, rfl, Lib.hid rfl, Below.refl _ _⟩
  case round =>
    obtain ⟨k, hk, rfl, hlf, hb⟩ := hrel
    by_cases h0 : 0 < k
    · obtain ⟨k, rfl⟩ : ∃ m, k = m + 1 := ⟨k - 1, by omega⟩
      have Hr := HH.out.loc hb
      obtain ⟨o, ho⟩ : ∃ o, st.stk[k]? = some o := ⟨st.stk[k], List.getElem?_eq_getElem (by omega)⟩
      obtain ⟨i, n, e1, e2, e3, e4, e5⟩ := HO.out k o ho
      have AT := Lib.hid (fun (W : World) (hW : Below w.heap.size w W) => sAt ((HH.out.loc hW).choose_spec.sv hl) (k : Int))
      have e6 : atOf st.stk (k : Int) = (i : Int) := by unfold atOf; rw [if_pos (by omega)]; simp [ho, e1]
      rw [e6] at AT
      obtain ⟨c0, c1, -⟩ := Hr.choose_spec.bc
      have hbr : h.b < wr.heap.size := Nat.lt_of_lt_of_le hbl hb.size
      have e7 : ((k + 1 : Nat) : Int) - 1 = (k : Int) := by omega
      have E := Lib.hid (And.intro ho (And.intro e3 (And.intro e4 e5)))
      have E2 := Lib.hid e2
      rw [e7]
      have h0' : (0 : Int) ≤ (k : Int) := by omega
      clear ho e1 e2 e3 e4 e5 e6 e7 b0 b1
      have hlast : lastFrom st.stk [name] (k + 1) = if htmlN n [name] then (k : Int) else lastFrom st.stk [name] k := by
        have h1 : htmlN n [name] = isH o [name] := by unfold htmlN isH; rw [E.out.2.1, E.out.2.2.1, E.out.2.2.2]; rfl
        rw [h1]
        show (match st.stk[k]? with | some o => if isH o [name] then (k : Int) else lastFrom st.stk [name] k | none => lastFrom st.stk [name] k) = _
        rw [E.out.1]
      have HLS := Lib.hid hlast
      clear hlast
      go_wp2_with fail
      have KEEP : Hid (∀ W, Below w.heap.size w W → W.cell? ⟨h.b, 0, none⟩ = some (.pointer (some ⟨h.a, 0, none⟩)) ∧ W.cell? ⟨h.b, 1, none⟩ = some (.pointer (some ⟨h.s, 0, none⟩)) ∧ Below w.heap.size w W) := Lib.hid fun W hW => by
        obtain ⟨x0, x1, -⟩ := (HH.out.loc hW).choose_spec.bc
        exact ⟨x0, x1, hW⟩
      go_region_held3 (fun w' => w'.cell? ⟨h.b, 0, none⟩ = some (.pointer (some ⟨h.a, 0, none⟩)) ∧ w'.cell? ⟨h.b, 1, none⟩ = some (.pointer (some ⟨h.s, 0, none⟩)) ∧ Below w.heap.size w w')
        (first | exact KEEP.out _ (below_drew hb) | (go_split_ands; refine KEEP.out _ ?_; first | assumption | exact below_alloc (by assumption) _ | exact below_step (by assumption) (by assumption)))
        (first
        | (go_at_call 79; refine Calls.mono (AT.out _ (by first | exact below_drew hb | exact below_drew (below_alloc hb _))) ?_; rintro e w1 ⟨rfl, rfl⟩)
        | (go_at_call 72; refine Calls.mono (aNodeB (HH.out.loc (by first | exact below_drew hb | exact below_drew (below_alloc hb _))) HS.out hN E2.out) ?_; rintro e w2 ⟨A, c1, K, c2, rfl, hb2, -, -⟩)
        | (go_at_call 81; refine Calls.mono (bHtml _ n A c1 K c2 _ 1 [name] (by simp) (by first | exact Strs.mk_ _ (by simp) | exact (Strs.drew (Strs.mk_ (w := wr) [name] rfl)).below hb2)) ?_; rintro e w3 ⟨rfl, hb3⟩))
      all_goals
        cases hq : htmlN n [name]
        · have HQ := Lib.hid hq
          go_split_ands
          go_wp2_with fail
          go_roundw
          case rel =>
            refine ⟨k, by omega, rfl, Lib.hid ?_, by assumption⟩
            rw [← hlf.out, HLS.out, HQ.out]
            rfl
          case measure => simp [intOf]
        · have HQ := Lib.hid hq
          go_split_ands
          go_wp2_with fail
          go_ret
          exact ⟨ret_int (by rw [← hlf.out, HLS.out, HQ.out]; rfl), by assumption⟩
    · obtain rfl : k = 0 := by omega
      clear b0 b1
      go_wp2_with fail
      go_ret
      exact ⟨ret_int (by rw [← hlf.out]; rfl), hb⟩

set_option maxHeartbeats 400000 in
theorem bOpen {w : World} {c : Col} {h : Hd} {st : St} (H : BRep w c h st) {N : Nat} (hs : Sz N st) (hN : N ≤ 100000000) (hl : st.stk.length ≤ 1000000) (hop : OpenOk st) (name : Str) :
    Calls Tryz.prog 44 #[.pointer (some ⟨h.b, 0, none⟩), .string name] w fun e w' => e = .returned (.bool (decide (0 ≤ lastOf st.stk [name]))) ∧ Below w.heap.size w w' := by
  have N1 := Lib.hid (bNone H)
  have L1 := Lib.hid (bLast H hs hN hl hop name)
  clear H hs hop
  go_enter Tryz.func44, Tryz.ntmps44
  go_wp2_with (first | (go_at_call 63; refine N1.out.mono ?_; rintro e w1 ⟨rfl, rfl⟩) | (go_at_call 86; refine L1.out.mono ?_; rintro e w1 ⟨rfl, hb1⟩))
  go_ret
  exact ⟨rfl, hb1⟩

end Go.Proofs.YtjmlkmlbhfkhbaaGreatDoor
