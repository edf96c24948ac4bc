/-
  slices.Delete of one open element (260), Index (120) and Remove (259) of a stack.
-/
import Derived.Test.YtjmlkmlbhfkhbaaGreatDoorHp16
import Derived.Test.YtjmlkmlbhfkhbaaGreatDoorHp09
import Derived.Deep.RegionLaw
set_option linter.unusedSimpArgs false
set_option linter.unusedVariables false
namespace Go.Proofs.YtjmlkmlbhfkhbaaGreatDoor
open Go Go.RowKit

def zOpE : List Value := [.int .i64 0, .int .i64 0, .string ⟨#[]⟩]
theorem run_clear3 (w : World) (ty : TypeId) (g o cc : Nat) (hc : ∀ j, j < 3 → (w.cell? ⟨g, o + j, none⟩).isSome = true) (hf : ∀ j, j < 3 → w.frozen? ⟨g, o + j, none⟩ = false) :
    (Builtin.clear_ #[119] ty #[.slice (some ⟨g, o, none⟩) 1 cc]).run Tryz.prog w = .ok (.tuple #[]) (w.setCells g o zOpE) := by
  have hst := run_storeCells_cells (P := Tryz.prog) g o zOpE 0 w (by simpa [zOpE] using hc) (by simpa [zOpE] using hf) (by intro v hv; simp [zOpE] at hv; rcases hv with rfl | rfl <;> rfl)
  simp only [Nat.add_zero] at hst
  have hz : (Builtin.zeroCells #[Value.int .i64 0, .int .i64 0, .string ⟨#[]⟩] 1).toList = zOpE := by
    unfold Builtin.zeroCells
    rw [Array.toList_map, Array.toList_range, show List.range (1 * (#[Value.int .i64 0, Value.int .i64 0, Value.string ⟨#[]⟩] : Array Value).size) = [0, 1, 2] from rfl]
    rfl
  simp [Builtin.clear_, run_underlying Tryz.underlying119, Tryz.zeroValue133, Value.cells, hz, hst]

theorem RowOk.setTail {w : World} {c : Col} {k : Key} {e : TypeId} {size g n cap : Nat} {xs : List Value} (h : RowOk w c k e size (some ⟨g, 0, none⟩) n cap xs) {j : Nat} (hj : n * size ≤ j) (v : Value) :
    RowOk (w.setCell ⟨g, j, none⟩ v) c k e size (some ⟨g, 0, none⟩) n cap xs := by
  refine ⟨h.1, ?_⟩
  rcases h.2 with h0 | ⟨g', cur, hA, hc, hg, h1, h2, h3, h4⟩
  · exact .inl h0
  · simp only [Option.some.injEq, Addr.mk.injEq, and_true] at hA
    subst hA
    refine .inr ⟨g, cur.setIfInBounds j v, rfl, hc, heap_setCell_same w g j cur e v hg, h1, h2, by simpa using h3, ?_⟩
    rw [Array.toList_setIfInBounds, List.take_set_of_le hj, h4]
theorem RowOk.setTails {c : Col} {k : Key} {e : TypeId} {size g n cap : Nat} {xs : List Value} : ∀ (vs : List Value) (w : World) (j : Nat), RowOk w c k e size (some ⟨g, 0, none⟩) n cap xs → n * size ≤ j → RowOk (w.setCells g j vs) c k e size (some ⟨g, 0, none⟩) n cap xs
  | [], w, j, h, hj => h
  | v :: r, w, j, h, hj => RowOk.setTails r _ (j + 1) (h.setTail hj v) (by omega)
theorem Mv.setCells {S : Key → Prop} {c : Col} {g : Nat} (hs : S (c g)) : ∀ (vs : List Value) (w : World) (j : Nat), Mv S w c (w.setCells g j vs) c
  | [], w, j => Mv.refl _ _ _
  | v :: r, w, j => (Mv.setCell (w := w) (a := ⟨g, j, none⟩) hs v).trans (Mv.setCells hs r _ (j + 1))

def putL : List Value → Nat → List Value → List Value
  | xs, _, [] => xs
  | xs, j, v :: r => putL (xs.set j v) (j + 1) r
theorem putL_len : ∀ (vs xs : List Value) (j : Nat), (putL xs j vs).length = xs.length
  | [], xs, j => rfl
  | v :: r, xs, j => by rw [putL, putL_len r]; simp
theorem putL_eq : ∀ (vs xs : List Value) (j : Nat), j + vs.length ≤ xs.length → (putL xs j vs).take (j + vs.length) = xs.take j ++ vs
  | [], xs, j, h => by simp [putL]
  | v :: r, xs, j, h => by
    simp only [List.length_cons] at h
    rw [putL, List.length_cons, show j + (r.length + 1) = j + 1 + r.length by omega, putL_eq r _ _ (by simp; omega)]
    rw [List.take_add_one, List.getElem?_set_self (by omega)]
    rw [List.take_set_of_le (Nat.le_refl _)]
    simp
theorem RowOk.setIns {c : Col} {k : Key} {e : TypeId} {size g n cap : Nat} : ∀ (vs : List Value) (w : World) (j : Nat) (xs : List Value), RowOk w c k e size (some ⟨g, 0, none⟩) n cap xs → j + vs.length ≤ xs.length → RowOk (w.setCells g j vs) c k e size (some ⟨g, 0, none⟩) n cap (putL xs j vs)
  | [], w, j, xs, h, hj => h
  | v :: r, w, j, xs, h, hj => by
    simp only [List.length_cons] at hj
    exact RowOk.setIns r _ (j + 1) _ (h.set_ (by omega) v) (by simp; omega)
theorem RowOk.drew {w : World} {c : Col} {k : Key} {e : TypeId} {size n cap : Nat} {A : Option Addr} {xs : List Value} (h : RowOk w c k e size A n cap xs) : RowOk w.drew c k e size A n cap xs := h

set_option maxHeartbeats 4000000 in
set_option maxRecDepth 1000000 in
theorem delOpen {w : World} {c : Col} {key : Key} {g n cap : Nat} {xs : List Value} (hrow : RowOk w c key 133 3 (some ⟨g, 0, none⟩) n cap xs) (k j : Nat) (hj : j = k + 1) (hk : k < n) (hn : n ≤ 1000000) (h1 : ∀ u ∈ xs, u.oneCell' = true) :
    Calls Tryz.prog 260 #[.slice (some ⟨g, 0, none⟩) n cap, .int .i64 k, .int .i64 j] w fun e w' => e = .returned (.slice (some ⟨g, 0, none⟩) (n - 1 : Nat) cap) ∧
      RowOk w' c key 133 3 (some ⟨g, 0, none⟩) (n - 1) cap (xs.take (k * 3) ++ xs.drop (j * 3)) ∧ Mv (· = key) w c w' c := by
  obtain ⟨i0, hi0, hz0, hz1, hz2⟩ := info_parts info133
  have hle := hrow.le
  have hmx := hrow.capMax
  unfold maxLen at hmx
  have hxl : xs.length = n * 3 := hrow.1
  obtain ⟨g', hA, hcg, hgl, hcell, hfr⟩ := hrow.at_ (by omega)
  obtain rfl : g = g' := by simpa using hA
  obtain ⟨news, hnews⟩ : ∃ news, news = xs.drop (j * 3) := ⟨_, rfl⟩
  have hlen : news.length = (n - j) * 3 := by rw [hnews, List.length_drop, hxl]; omega
  obtain ⟨A, hAd, hsrc⟩ : ∃ A : Addr, (if cap = j then (some ⟨g, 0, none⟩ : Option Addr) else some ⟨g, j * 3, none⟩) = some A ∧ Hid (∀ t u, news[t]? = some u → w.drew.cell? (A.add t) = some u) := by
    by_cases h : cap = j
    · refine ⟨⟨g, 0, none⟩, by simp [h], Lib.hid fun t u hu => ?_⟩
      have h0 : news.length = 0 := by rw [hlen]; omega
      rw [List.length_eq_zero_iff.1 h0] at hu
      simp at hu
    · refine ⟨⟨g, j * 3, none⟩, by simp [h], Lib.hid fun t u hu => ?_⟩
      rw [hnews, List.getElem?_drop] at hu
      rw [Addr.add_lit]
      exact hcell _ _ hu
  have s1 : Hid (news.length = (n - j) * 3) := Lib.hid hlen
  have s2 : Hid (∀ u ∈ news, u.oneCell' = true) := Lib.hid fun u hu => h1 u (List.mem_of_mem_drop (by rw [← hnews]; exact hu))
  have s3 : Hid (∀ t, t < news.length → (w.drew.cell? ⟨g, 0 + k * 3 + t, none⟩).isSome = true ∧ w.drew.frozen? ⟨g, 0 + k * 3 + t, none⟩ = false) := Lib.hid (by
    intro t ht
    rw [hlen] at ht
    refine ⟨?_, hfr _⟩
    have : 0 + k * 3 + t < xs.length := by rw [hxl]; omega
    show (w.cell? _).isSome = true
    rw [hcell _ _ (List.getElem?_eq_getElem this)]
    rfl)
  obtain ⟨W1, hW1⟩ : ∃ W1, W1 = w.drew.setCells g (0 + k * 3) news := ⟨_, rfl⟩
  have R1 : RowOk W1 c key 133 3 (some ⟨g, 0, none⟩) n cap (putL xs (0 + k * 3) news) := by
    rw [hW1]
    exact RowOk.setIns news _ _ _ hrow.drew (by rw [hlen, hxl]; omega)
  obtain ⟨g2, hA2, -, -, hcell2, hfr2⟩ := R1.at_ (by omega)
  obtain rfl : g = g2 := by simpa using hA2
  have hcl := fun ty => run_clear3 W1 ty g ((n - 1) * 3) (cap - (n - 1)) (fun j hj => by
    have hz : (n - 1) * 3 + j < (putL xs (0 + k * 3) news).length := by rw [putL_len, hxl]; omega
    rw [hcell2 _ _ (List.getElem?_eq_getElem hz)]; rfl) (fun j _ => hfr2 _)
  have R2 : RowOk W1 c key 133 3 (some ⟨g, 0, none⟩) (n - 1) cap (xs.take (k * 3) ++ xs.drop (j * 3)) := by
    have := R1.cut (m := n - 1) (by omega)
    have e1 : (n - 1) * 3 = 0 + k * 3 + news.length := by rw [hlen]; omega
    rw [e1, putL_eq _ _ _ (by rw [hlen, hxl]; omega), hnews] at this
    simpa using this
  have FIN := Lib.hid (And.intro (RowOk.setTails zOpE W1 ((n - 1) * 3) R2 (Nat.le_refl _)) (show Mv (· = key) w c (W1.setCells g ((n - 1) * 3) zOpE) c by
    rw [hW1]
    exact ((Mv.refl (· = key) w c).drew.trans (Mv.setCells hcg _ _ _)).trans (Mv.setCells hcg _ _ _)))
  have hW : Hid (W1 = w.drew.setCells g (0 + k * 3) news) := Lib.hid hW1
  obtain ⟨m, rfl⟩ : ∃ m, n = m + 1 := ⟨n - 1, by omega⟩
  have q0 : (0 : Int) ≤ (k : Int) := by omega
  have q1 : (0 : Int) ≤ (j : Int) := by omega
  have q2 : (j : Int) ≤ ((m + 1 : Nat) : Int) := by omega
  have q3 : ((m + 1 : Nat) : Int) ≤ (cap : Int) := by omega
  have hkc : k ≤ cap := by omega
  have hk1 : j ≤ cap := by omega
  have heq : ¬ k = j := by omega
  have q4 : (k : Int) ≤ (j : Int) := by omega
  have q5 : j ≤ m + 1 := by omega
  have q8 : (j : Int) ≤ (m : Int) + 1 := by omega
  have q6 : k ≤ m + 1 := by omega
  have q7 : k ≤ j := by omega
  clear hW1 R1 R2 hnews hlen hrow hcell hfr hcell2 hfr2 hA2 hxl h1
  have em : k + (m + 1 - j) = m := by omega
  have hcl2 : ∀ ty, (Builtin.clear_ #[119] ty #[.slice (some ⟨g, (k + (m + 1 - j)) * 3, none⟩) (m + 1 - (k + (m + 1 - j))) (cap - (k + (m + 1 - j)))]).run Tryz.prog W1 = .ok (.tuple #[]) (W1.setCells g (m * 3) zOpE) := by
    intro ty
    rw [em, show m + 1 - m = 1 by omega]
    exact hcl ty
  have EM := Lib.hid em
  clear em hcl
  have HJ := Lib.hid hj
  clear hj
  go_enter Tryz.func260, Tryz.ntmps260
  go_wp2_with fail
  go_region_law (refine step_append_room rfl (.tmp 22) (.tmp 25) 119 rfl 133 i0 3 Tryz.underlying119 hi0 hz1 g 0 k cap (by simp [Act.eval, Act.put]) A (m + 1 - j) (cap - j) news (by simp [Act.eval, Act.put]) s1.out hsrc.out s2.out (by omega) s3.out ?_; rw [← hW.out])
  go_wp2
  go_ret
  refine ⟨by rw [EM.out]; rfl, FIN.out.1, FIN.out.2⟩

theorem ixFrom_lt (l : List OpE) (i : Int) : ∀ k, ixFrom l i k < (k : Int) ∧ -1 ≤ ixFrom l i k
  | 0 => by unfold ixFrom; omega
  | k + 1 => by
    have ih := ixFrom_lt l i k
    unfold ixFrom
    split
    · split
      · omega
      · omega
    · omega

set_option maxHeartbeats 1000000 in
theorem sIndex_ {w : World} {s a : Nat} {A : Option Addr} {cap : Nat} {stk : List OpE} (H : SV w s a A cap stk) (i : Int) :
    Calls Tryz.prog 120 #[.pointer (some ⟨s, 0, none⟩), .int .i64 i] w fun e w' => e = .returned (.int .i64 (ixFrom stk i stk.length)) ∧ w = w' := by
  have L := Lib.hid (sLen H)
  have a1 := H.2.1
  have HC := Lib.hid H.2.2.2.2.2
  have hsz := H.2.2.1
  clear H
  go_enter Tryz.func120, Tryz.ntmps120
  go_wp2_with (go_at_call 77; refine L.out.mono ?_; rintro e w1 ⟨rfl, rfl⟩)
  go_loop [5] (fun t => ∃ k : Nat, k ≤ stk.length ∧ t = .int .i64 ((k : Int) - 1) ∧ ixFrom stk i stk.length = ixFrom stk i k) (fun t => (intOf t + 1).toNat)
  case atStart => exact ⟨stk.length, Nat.le_refl _, rfl, rfl⟩
  case round =>
    obtain ⟨k, hk, rfl, hix⟩ := hrel
    by_cases h0 : 0 < k
    · obtain ⟨k, rfl⟩ : ∃ m, k = m + 1 := ⟨k - 1, by omega⟩
      obtain ⟨g, rfl, hc⟩ := HC.out (by omega)
      obtain ⟨o, ho⟩ : ∃ o, stk[k]? = some o := ⟨stk[k], List.getElem?_eq_getElem (by omega)⟩
      obtain ⟨c0, -, -⟩ := hc k o ho
      have hst : ixFrom stk i (k + 1) = if o.node = i then (k : Int) else ixFrom stk i k := by
        rw [ixFrom, ho]
      rw [hst] at hix
      rw [show ((k + 1 : Nat) : Int) - 1 = (k : Int) by omega]
      have h1 : (0 : Int) ≤ (k : Int) := by omega
      have h2 : (k : Int) < (stk.length : Int) := by omega
      have HX := Lib.hid hix
      clear hc ho hst hix
      cases hne : (o.node == i)
      · have HX2 : Hid (ixFrom stk i stk.length = ixFrom stk i k) := Lib.hid (HX.out.trans (if_neg (fun e => by rw [e] at hne; simp at hne)))
        clear HX
        go_wp2_with fail
        go_round
        case rel => exact ⟨k, by omega, rfl, HX2.out⟩
        case measure => simp [intOf]
      · have HX2 : Hid (ixFrom stk i stk.length = k) := Lib.hid (HX.out.trans (if_pos (by simpa using hne)))
        clear HX
        go_wp2_with fail
        go_ret
        exact ⟨ret_int HX2.out.symm, rfl⟩
    · obtain rfl : k = 0 := by omega
      go_wp2_with fail
      go_ret
      exact ⟨ret_int (by first | exact hix.symm | rw [hix] | rfl), rfl⟩

theorem flat3_drop (l : List OpE) : ∀ n, (l.flatMap OpE.cells).drop (n * 3) = (l.drop n).flatMap OpE.cells := by
  induction l with
  | nil => intro n; simp
  | cons x r ih =>
    intro n
    cases n with
    | zero => simp
    | succ n =>
      rw [List.flatMap_cons, List.drop_succ_cons, ← ih n, show (n + 1) * 3 = x.cells.length + n * 3 by simp [OpE.cells]; omega, List.drop_append]
      simp

set_option maxRecDepth 100000 in
set_option maxHeartbeats 4000000 in
theorem sRemove {w : World} {c : Col} {h : Hd} {st : St} (H : BRep w c h st) (hl : st.stk.length ≤ 1000000) (i : Int) {k : Nat} (hk : ixFrom st.stk i st.stk.length = (k : Int)) :
    Calls Tryz.prog 259 #[.pointer (some ⟨h.s, 0, none⟩), .int .i64 i] w (OkB h { st with stk := st.stk.eraseIdx k } (.int .i64 0) w c) := by
  obtain ⟨X, H⟩ := H
  have V := H.sv hl
  have N1 := Lib.hid (sNone V)
  have IX := Lib.hid (sIndex_ V i)
  rw [hk] at IX
  have hlt : k < st.stk.length := by have := (ixFrom_lt st.stk i st.stk.length).1; omega
  obtain ⟨g, hA, -, -, -, -⟩ := H.stk.at_ (by omega)
  have hrow := H.stk
  rw [hA] at hrow
  have DE := delOpen hrow k (k + 1) rfl hlt hl (fun u hu => by
    obtain ⟨o, -, ho⟩ := List.mem_flatMap.1 hu
    exact OpE.one o u ho)
  rw [show (((k + 1 : Nat) : Int)) = (k : Int) + 1 by omega] at DE
  have DEH := Lib.hid DE
  have a1 : w.cell? ⟨h.s, 1, none⟩ = some (.slice (some ⟨g, 0, none⟩) st.stk.length X.scap) := by rw [← hA]; exact H.hs.cell 1
  have hle := H.stk.le
  have hmx := H.stk.capMax
  unfold maxLen at hmx
  have h0 : (0 : Int) ≤ (k : Int) := by omega
  have hw : IntKind.i64.wrap ((k : Int) + 1) = (k : Int) + 1 := by have := wrap_small (L := k + 1) (by omega); rwa [show (((k + 1 : Nat) : Int)) = (k : Int) + 1 by omega] at this
  have HH := Lib.hid H
  have HLT := Lib.hid hlt
  clear V H hrow DE hA hk
  go_enter Tryz.func259, Tryz.ntmps259
  go_wp2_with (first
    | (go_at_call 127; refine N1.out.mono ?_; rintro e w1 ⟨rfl, rfl⟩)
    | (go_at_call 120; refine IX.out.mono ?_; rintro e w1 ⟨rfl, rfl⟩)
    | (go_at_call 260; refine DEH.out.mono ?_; rintro e w1 ⟨rfl, hrow2, hmv2⟩; obtain ⟨m1, m2, m3⟩ := HH.out.keepSt hmv2 (by simp); clear a1))
  go_ret
  have hrow3 : RowOk w1 c (h.sd, 7, 0) 133 3 (some ⟨g, 0, none⟩) (st.stk.eraseIdx k).length X.scap ((st.stk.eraseIdx k).flatMap OpE.cells) := by
    have e1 : (st.stk.eraseIdx k).length = st.stk.length - 1 := by rw [List.length_eraseIdx, if_pos HLT.out]
    have e2 : (st.stk.eraseIdx k).flatMap OpE.cells = (st.stk.flatMap OpE.cells).take (k * 3) ++ (st.stk.flatMap OpE.cells).drop ((k + 1) * 3) := by
      rw [List.eraseIdx_eq_take_drop_succ, List.flatMap_append, flat3_take, flat3_drop]
    rw [e1, e2]
    exact hrow2
  have SS := setStk HH.out hrow3 hmv2
  rw [show (st.stk.eraseIdx k).length = st.stk.length - 1 by rw [List.length_eraseIdx, if_pos HLT.out]] at SS
  exact ⟨rfl, c, ⟨_, SS.1⟩, SS.2⟩
end Go.Proofs.YtjmlkmlbhfkhbaaGreatDoor
