/-
  strings.Contains at this program (the shelf's contract); Thorough (206) of a template; Thorough (195) and Until (76) of a stack whose top is a template; Clear (207); the modes' Pop (11); leave (196).
  leave (196) of a builder whose current node is a template, and what it is made of.
  Clear (207) of a list that is one marker; the modes' Pop (11); leave (196) where the current node is a template.
-/
import Derived.Shelf.Strings.Search1
import Derived.Shelf.Strings.Search2
import Derived.Shelf.Strings.Search3
import Derived.Shelf.LaysM
import Derived.Shelf.Strings.Shaped
import Derived.Test.YtjmlkmlbhfkhbaaGreatDoorHp16
import Derived.Test.YtjmlkmlbhfkhbaaGreatDoorHp17
import Derived.Test.YtjmlkmlbhfkhbaaGreatDoorHp08
import Derived.Test.YtjmlkmlbhfkhbaaGreatDoorHp20
set_option linter.unusedSimpArgs false
set_option linter.unusedVariables false
namespace Go.Proofs.YtjmlkmlbhfkhbaaGreatDoor
open Go Go.Shelf Go.RowKit
def shRen : Go.Shelf.Ren := ⟨fun | 144 => 191 | 143 => 204 | 219 => 212 | 217 => 214 | 225 => 215 | 224 => 216 | 267 => 217 | 266 => 218 | 314 => 219 | n => n, fun | 9 => 9 | 4 => 4 | 3 => 3 | 5 => 5 | 46 => 196 | 146 => 198 | 51 => 197 | n => n, fun | 1 => 4 | n => n⟩
theorem shLays : Go.Proofs.LaysM.n144 Tryz.prog shRen := {
  mixed := by kernel_rfl
  f143 := Tryz.func204.trans (congrArg some (by kernel_rfl))
  f144 := Tryz.func191.trans (congrArg some (by kernel_rfl))
  f217 := Tryz.func214.trans (congrArg some (by kernel_rfl))
  f219 := Tryz.func212.trans (congrArg some (by kernel_rfl))
  f224 := Tryz.func216.trans (congrArg some (by kernel_rfl))
  f225 := Tryz.func215.trans (congrArg some (by kernel_rfl))
  f266 := Tryz.func218.trans (congrArg some (by kernel_rfl))
  f267 := Tryz.func217.trans (congrArg some (by kernel_rfl))
  f314 := Tryz.func219.trans (congrArg some (by kernel_rfl))
  t3 := Tryz.underlying3
  a3 := Tryz.isAgg3
  z3 := Tryz.sizeOf3
  v3 := Tryz.zeroValue3
  t4 := Tryz.underlying4
  a4 := Tryz.isAgg4
  z4 := Tryz.sizeOf4
  v4 := Tryz.zeroValue4
  t5 := Tryz.underlying5
  a5 := Tryz.isAgg5
  z5 := Tryz.sizeOf5
  v5 := Tryz.zeroValue5
  t9 := Tryz.underlying9
  a9 := Tryz.isAgg9
  z9 := Tryz.sizeOf9
  v9 := Tryz.zeroValue9
  t46 := Tryz.underlying196
  a46 := Tryz.isAgg196
  z46 := Tryz.sizeOf196
  v46 := Tryz.zeroValue196
  t51 := Tryz.underlying197
  a51 := Tryz.isAgg197
  z51 := Tryz.sizeOf197
  v51 := Tryz.zeroValue197
  t146 := Tryz.underlying198
  a146 := Tryz.isAgg198
  z146 := Tryz.sizeOf198
  v146 := Tryz.zeroValue198
  g1 := by kernel_rfl
  i3 := by kernel_rfl
  i4 := by kernel_rfl
  i5 := by kernel_rfl
  i9 := by kernel_rfl
  i46 := by kernel_rfl
  i51 := by kernel_rfl
  i146 := by kernel_rfl
  m1 := by kernel_rfl
  s1_3 := fun w h => Go.Proofs.cell_of_shapedOpen_int (zero := #[.int .i64 0]) (t := 3) h (of_decide_eq_true (by kernel_rfl)) (by kernel_rfl) rfl (by kernel_rfl) (by kernel_rfl) Tryz.underlying3 }

/-- internal/bytealg.MaxLen holds some number, in a block of nobody's. -/
def MLen (w : World) (c : Col) : Prop := (c 4).1 = 0 ∧ ∃ m, w.cell? ⟨4, 0, none⟩ = some (.int .i64 m)
theorem MLen.of {w : World} {c : Col} (h : w.ShapedOpen Tryz.prog) (hc : (c 4).1 = 0) : MLen w c := ⟨hc, shLays.s1_3 w h⟩
theorem MLen.mv {S : Key → Prop} {w w' : World} {c c' : Col} (H : MLen w c) (hm : Mv S w c w' c') (hS : ∀ k, S k → k.1 ≠ 0) : MLen w' c' := by
  obtain ⟨h0, m, hm4⟩ := H
  have hlt : 4 < w.heap.size := by
    have := block_lt_of_cell hm4
    exact this
  refine ⟨by rw [hm.ext _ hlt]; exact h0, m, ?_⟩
  rw [World.cell?_of_block (w := w) (hm.blk _ hlt (fun hs => hS _ hs h0))]
  exact hm4
theorem kContains (s sub : Str) (w : World) {c : Col} (H : MLen w c) (hs : s.size ≤ 1000) :
    Calls Tryz.prog 191 #[.string s, .string sub] w fun e w' => e = .returned (.bool (Lib.contains s.data.toList sub.data.toList)) ∧ w = w' := by
  obtain ⟨-, m, hm⟩ := H
  refine (Any.strings_Contains { shLays with } s sub m w (by omega) hm).mono ?_
  rintro e w' ⟨rfl, rfl⟩
  exact ⟨rfl, rfl⟩
end Go.Proofs.YtjmlkmlbhfkhbaaGreatDoor
namespace Go.Proofs.YtjmlkmlbhfkhbaaGreatDoor
open Go Go.RowKit

abbrev lImplied : Str := ⟨#[32, 100, 100, 32, 100, 116, 32, 108, 105, 32, 111, 112, 116, 103, 114, 111, 117, 112, 32, 111, 112, 116, 105, 111, 110, 32, 112, 32, 114, 98, 32, 114, 112, 32, 114, 116, 32, 114, 116, 99, 32]⟩

set_option maxRecDepth 100000 in
set_option maxHeartbeats 1000000 in
theorem kThorough (w : World) {c : Col} (H : MLen w c) : Calls Tryz.prog 206 #[.string nTemplate] w fun e w' => e = .returned (.bool false) ∧ w = w' := by
  have C : Hid (∀ s sub : Str, s.size ≤ 1000 → Lib.contains s.data.toList sub.data.toList = false → Calls Tryz.prog 191 #[.string s, .string sub] w fun e w' => e = .returned (.bool false) ∧ w = w') := Lib.hid (fun s sub hs hc => by
    have := kContains s sub w H hs
    rw [hc] at this
    exact this)
  clear H
  go_enter Tryz.func206, Tryz.ntmps206
  go_wp2_with (first
    | (go_at_call 126; go_in)
    | (go_at_call 162; go_in)
    | (go_at_call 191; refine (C.out _ _ (by decide) (by decide +kernel)).mono ?_; rintro e w1 ⟨rfl, rfl⟩))
  go_ret
  exact ⟨rfl, rfl⟩

/-- A stack whose top is an HTML template. -/
def TopT (st : St) (l : List OpE) (n : Int) : Prop := st.stk = l ++ [⟨n, 0, nTemplate⟩]
theorem TopT.at_ {st : St} {l : List OpE} {n : Int} (h : TopT st l n) : st.stk[l.length]? = some ⟨n, 0, nTemplate⟩ ∧ st.stk.length = l.length + 1 := by
  unfold TopT at h
  rw [h]
  simp

set_option maxRecDepth 100000 in
set_option maxHeartbeats 2000000 in
theorem sThorough {w : World} {c : Col} {h : Hd} {st : St} (H : BRep w c h st) (hl : st.stk.length ≤ 1000000) {l : List OpE} {n : Int} (ht : TopT st l n) (hm : MLen w c) :
    Calls Tryz.prog 195 #[.pointer (some ⟨h.s, 0, none⟩)] w fun e w' => e = .returned (.tuple #[]) ∧ w = w' := by
  obtain ⟨X, H⟩ := H
  have V := H.sv hl
  have L := Lib.hid (sLen V)
  obtain ⟨t1, t2⟩ := ht.at_
  have a1 := V.2.1
  obtain ⟨g, hg, hc⟩ := V.2.2.2.2.2 (by omega)
  obtain ⟨c0, c1, c2⟩ := hc _ _ t1
  have K := Lib.hid (kThorough w hm)
  rw [t2] at L a1
  have e1 : ((l.length + 1 : Nat) : Int) - 1 = (l.length : Int) := by omega
  have hlb : l.length ≤ 1000000 := by omega
  have h1 : (0 : Int) ≤ (l.length : Int) := by omega
  have h2 : l.length < l.length + 1 := by omega
  have h3 : (l.length : Int) < (l.length : Int) + 1 := by omega
  rw [hg] at a1
  clear V H hc t1 t2 hm ht
  go_enter Tryz.func195, Tryz.ntmps195
  go_wp2_with (first
    | (go_at_call 124; go_in)
    | (go_at_call 77; refine L.out.mono ?_; rintro e w1 ⟨rfl, rfl⟩)
    | (go_at_call 206; refine K.out.mono ?_; rintro e w1 ⟨rfl, rfl⟩))
  go_loop [4] (fun t => t = .int .i64 (l.length : Int)) (fun _ => 0)
  case atStart => first | rfl | (simp; unfold wrap64; omega)
  case round =>
    obtain rfl := hrel
    go_wp2_with (go_at_call 206; refine K.out.mono ?_; rintro e w1 ⟨rfl, rfl⟩)
    go_end0
    go_wp2_with fail
    go_end0
    exact ⟨rfl, rfl⟩

set_option maxHeartbeats 1000000 in
theorem oHtml (w : World) (n : Int) (g : Nat) (hs : Strs w g [nTemplate]) :
    Calls Tryz.prog 123 #[.agg #[.int .i64 n, .int .i64 0, .string nTemplate], .slice (some ⟨g, 0, none⟩) 1 1] w fun e w' => e = .returned (.bool true) ∧ Below w.heap.size w w' := by
  have hs1 := hs.alloc (.cells (⟨n, 0, nTemplate⟩ : OpE).cells.toArray 133)
  have C := Lib.hid (sContains _ g 1 [nTemplate] nTemplate (by decide) hs1)
  rw [show inS [nTemplate] nTemplate = true by decide +kernel] at C
  clear hs hs1
  go_enter Tryz.func123, Tryz.ntmps123
  go_wp2_with (go_at_call 130; refine C.out.mono ?_; rintro e w1 ⟨rfl, rfl⟩)
  go_ret
  exact ⟨rfl, below_alloc (Below.refl _ _) _⟩

set_option maxRecDepth 100000 in
set_option maxHeartbeats 2000000 in
theorem sUntil {w : World} {c : Col} {h : Hd} {st : St} (H : BRep w c h st) (hl : st.stk.length ≤ 1000000) {l : List OpE} {n : Int} (ht : TopT st l n) (g : Nat) (hs : Strs w g [nTemplate]) :
    Calls Tryz.prog 76 #[.pointer (some ⟨h.s, 0, none⟩), .slice (some ⟨g, 0, none⟩) 1 1] w (OkB h { st with stk := l } (.int .i64 0) w c) := by
  obtain ⟨X, H⟩ := H
  have V := H.sv hl
  have N1 := Lib.hid (sNone V)
  obtain ⟨t1, t2⟩ := ht.at_
  have a1 := V.2.1
  have f1 : w.frozen? ⟨h.s, 1, none⟩ = false := H.hs.frozen 1
  have hle := V.2.2.2.1
  have hmx := V.2.2.2.2.1
  unfold maxLen at hmx
  obtain ⟨gg, hg, hc⟩ := V.2.2.2.2.2 (by omega)
  obtain ⟨c0, c1, c2⟩ := hc _ _ t1
  have HT := Lib.hid t2
  have HG := Lib.hid hg
  rw [t2, hg] at a1
  have hcut := H.stk.cut (m := l.length) (by omega)
  rw [flat3_take, ht, List.take_left, hg] at hcut
  have HLT := Lib.hid H.hs.lt
  have hlb : l.length ≤ 1000000 := by omega
  have h1 : (0 : Int) ≤ (l.length : Int) := by omega
  have h2 : l.length < l.length + 1 := by omega
  have h3 : (l.length : Int) < (l.length : Int) + 1 := by omega
  have h4 : (l.length : Int) ≤ (X.scap : Int) := by omega
  have h5 : l.length ≤ X.scap := by omega
  have OH := Lib.hid (oHtml w n g hs)
  have SA := Lib.hid (fun (w1 : World) (hb : Below w.heap.size w w1) => And.intro (setStk (H.kp (fun p i => kp_below hb) ((Mv.of_below (S := fun _ => False) hb).gd H.gd)) (hcut.kp (kp_below hb)) (Mv.refl _ _ _)) (H.keepSt (Mv.of_below (S := fun _ => False) hb) id))
  clear V H hc t1 t2 ht hcut hs hle hmx
  go_enter Tryz.func76, Tryz.ntmps76
  go_wp2_with (go_at_call 127; refine N1.out.mono ?_; rintro e w1 ⟨rfl, rfl⟩)
  go_loop [5] (fun t => t = .int .i64 (l.length : Int)) (fun _ => 0)
  case atStart => first | rfl | (simp; unfold wrap64; omega)
  case round =>
    obtain rfl := hrel
    go_wp2_with fail
    refine OH.out.mono ?_
    rintro e w1 ⟨rfl, hb1⟩
    obtain ⟨SS, m1, m2, m3⟩ := SA.out _ hb1
    rw [HT.out, HG.out] at m1
    have S2 := Lib.hid SS
    clear a1 c0 c1 c2 f1 SS
    go_wp2_with fail
    go_ret
    exact ⟨rfl, c, ⟨_, S2.out.1⟩, (Mv.of_below hb1).trans S2.out.2⟩
end Go.Proofs.YtjmlkmlbhfkhbaaGreatDoor
namespace Go.Proofs.YtjmlkmlbhfkhbaaGreatDoor
open Go Go.RowKit

set_option maxRecDepth 100000 in
set_option maxHeartbeats 2000000 in
theorem fClear1 {w : World} {c : Col} {h : Hd} {st : St} (H : BRep w c h st) (hf : st.fmt = [-1]) :
    Calls Tryz.prog 207 #[.pointer (some ⟨h.l, 0, none⟩)] w (OkB h { st with fmt := [] } (.tuple #[]) w c) := by
  obtain ⟨X, H⟩ := H
  have V := H.fv (by rw [hf]; decide)
  have L := Lib.hid (fLen V)
  rw [hf] at L
  have a1 := V.2.1
  have f1 : w.frozen? ⟨h.l, 1, none⟩ = false := H.hl.frozen 1
  have HLT := H.hl.lt
  obtain ⟨g, hg, hc, -⟩ := V.2.2.2 (by rw [hf]; decide)
  have c0 := hc 0 (-1) (by rw [hf]; rfl)
  rw [hf, hg] at a1
  have hle := H.fmt.le
  have hmx := H.fmt.capMax
  unfold maxLen at hmx
  have hcut := H.fmt.cut (m := 0) (Nat.zero_le _)
  simp only [Nat.zero_mul, List.take_zero] at hcut
  have SS := Lib.hid (setFmt (l := []) H hcut (Mv.refl _ _ _))
  rw [hg] at SS
  have h5 : (0 : Int) ≤ (X.fcap : Int) := by omega
  simp only [List.length_cons, List.length_nil] at L a1
  clear V H hc hcut hf hg hle hmx
  go_enter Tryz.func207, Tryz.ntmps207
  go_wp2_with (first
    | (go_at_call 108; go_in)
    | (go_at_call 155; go_in)
    | (go_at_call 156; go_in)
    | (go_at_call 70; refine L.out.mono ?_; rintro e w1 ⟨rfl, rfl⟩))
  go_loop [7] (fun t => t = .int .i64 0) (fun _ => 0)
  case atStart => rfl
  case round =>
    obtain rfl := hrel
    go_wp2_with (first | (go_at_call 156; go_in) | (go_at_call 70; refine L.out.mono ?_; rintro e w1 ⟨rfl, rfl⟩))
    go_end0
    exact ⟨rfl, c, ⟨_, SS.out.1⟩, SS.out.2⟩

set_option maxRecDepth 100000 in
set_option maxHeartbeats 2000000 in
theorem bModePop {w : World} {c : Col} {h : Hd} {st : St} (H : BRep w c h st) (hl : st.modes.length ≤ 1000000) {L : Nat} (hL : st.modes.length = L + 1) :
    Calls Tryz.prog 11 #[.pointer (some ⟨h.b, 0, none⟩)] w (OkB h { st with modes := st.modes.dropLast } (.tuple #[]) w c) := by
  have N1 := Lib.hid (bNone H)
  obtain ⟨X, H⟩ := H
  obtain ⟨-, -, -, -, -, b5, -⟩ := H.bc
  have f5 := H.hb.frozen 5
  have hlb := H.hb.lt
  have hle := H.modes.le
  have hmx := H.modes.capMax
  unfold maxLen at hmx
  have hcut := H.modes.cut (m := L) (by omega)
  have e1 : st.modes.dropLast.length = L := by rw [List.length_dropLast]; omega
  have e2 : (intCells st.modes).take (L * 1) = intCells st.modes.dropLast := by
    unfold intCells
    rw [Nat.mul_one, ← List.map_take, List.dropLast_eq_take, hL]
    simp
  rw [e2] at hcut
  have hcut2 : RowOk w c (h.sd, 10, 0) 3 1 X.mA st.modes.dropLast.length X.mcap (intCells st.modes.dropLast) := by rw [e1]; exact hcut
  have SS := setModes H hcut2 (Mv.refl _ _ _)
  rw [e1] at SS
  have SSH := Lib.hid SS
  rw [hL] at b5
  have h0 : (0 : Int) < ((L + 1 : Nat) : Int) := by omega
  have h1 : 0 < L + 1 := by omega
  have h2 : IntKind.i64.wrap (L : Int) = L := wrap_small (by omega)
  have h3 : (0 : Int) ≤ (L : Int) := by omega
  have h4 : (L : Int) ≤ (X.mcap : Int) := by omega
  have h5 : L ≤ X.mcap := by omega
  clear H hcut hcut2 SS e1 e2 hL hl hmx hle
  go_enter Tryz.func11, Tryz.ntmps11
  go_wp2_with (go_at_call 63; refine N1.out.mono ?_; rintro e w1 ⟨rfl, rfl⟩)
  go_region
  all_goals
    go_end0
    exact ⟨rfl, c, (show BRep _ c h _ from ⟨_, SSH.out.1⟩).loc (below_drew (Below.refl _ _)), SSH.out.2.drew⟩

theorem Wf.same' {N : Nat} {st st' : St} (h : Wf N st) (e1 : st'.ns = st.ns) (e2 : st'.stk = st.stk) (e3 : st'.foster = st.foster) : Wf N st' := h.same e1 e2 e3

theorem leave_eq {st : St} {l : List OpE} {n : Int} (ht : TopT st l n) (hf : st.fmt = [-1]) : leaveM st = resetM { st with stk := l, fmt := [], modes := st.modes.dropLast } := by
  have hl : lastOf st.stk [nTemplate] = (l.length : Int) := by
    unfold lastOf
    obtain ⟨t1, t2⟩ := ht.at_
    rw [t2, lastFrom, t1]
    have : isH ⟨n, 0, nTemplate⟩ [nTemplate] = true := by
      unfold isH
      rw [show inS [nTemplate] nTemplate = true by decide +kernel]
      rfl
    simp [this]
  unfold leaveM
  rw [hl, hf, ht, Int.toNat_natCast, List.take_left]
  rfl

set_option maxRecDepth 100000 in
set_option maxHeartbeats 2000000 in
theorem hLeave {w : World} {c : Col} {h : Hd} {st : St} (H : BRep w c h st) {N : Nat} (wf : Wf N st) (hN : N ≤ 9000000) (hs : st.stk.length ≤ 100) {l : List OpE} {n : Int} (ht : TopT st l n) (hf : st.fmt = [-1]) (hml : st.modes.length ≤ 1000000) {L : Nat} (hL : st.modes.length = L + 1)
    (hby : ByOk w c) (hnm : ∀ (i : Nat) (n : Nd), st.ns[i]? = some n → n.name.size ≤ maxLen) :
    Calls Tryz.prog 196 #[.pointer (some ⟨h.b, 0, none⟩)] w (OkB h (leaveM st) (.tuple #[]) w c) := by
  rw [leave_eq ht hf]
  have hsd := H.sd
  have ST := Lib.hid (bStack H)
  have hb1 : Below w.heap.size w (w.alloc (.cells #[.string nTemplate] 9)) := below_alloc (Below.refl _ _) _
  have UN := Lib.hid (sUntil (H.loc hb1) (by omega) ht w.heap.size (by exact Strs.mk_ (w := w) [nTemplate] rfl))
  have RS : Hid (∀ W C, BRep W C h { st with stk := l, fmt := [], modes := st.modes.dropLast } → Mv (Pr h) w c W C →
      Calls Tryz.prog 26 #[.pointer (some ⟨h.b, 0, none⟩)] W (OkB h (resetM { st with stk := l, fmt := [], modes := st.modes.dropLast }) (.tuple #[]) W C)) := Lib.hid (by
    intro W C HW hm
    have wf' : Wf N { st with stk := l, fmt := [], modes := st.modes.dropLast } := (wf.sub (l := l) (fun o ho => by rw [ht]; exact List.mem_append_left _ ho)).same' rfl rfl rfl
    refine bReset HW (hby.mv hm (Pr.ne hsd)) wf'.sz (by omega) ?_ (by show st.modes.dropLast.length ≤ _; simp; omega) wf'.op hnm
    have := ht.at_.2
    show l.length ≤ _
    omega)
  have HF := Lib.hid hf
  have HM := Lib.hid (And.intro hml hL)
  clear H wf hs ht hf hml hL hby hnm
  go_enter Tryz.func196, Tryz.ntmps196
  go_wp2_with (go_at_call 31; refine ST.out.mono ?_; rintro e w1 ⟨rfl, rfl⟩)
  refine UN.out.mono ?_
  rintro e w1 ho
  obtain ⟨rfl, c1, H1, m1⟩ := ho.after hb1
  have FM := Lib.hid (bFormats H1)
  go_wp2_with (go_at_call 32; refine FM.out.mono ?_; rintro e w2 ⟨rfl, rfl⟩)
  refine (fClear1 H1 HF.out).mono ?_
  rintro e w2 ⟨rfl, c2, H2, m2⟩
  go_wp2_with fail
  refine (bModePop H2 HM.out.1 HM.out.2).mono ?_
  rintro e w3 ⟨rfl, c3, H3, m3⟩
  go_wp2_with fail
  refine (RS.out _ _ H3 (m1.trans (m2.trans m3))).mono ?_
  rintro e w4 ⟨rfl, c4, H4, m4⟩
  go_wp2_with fail
  go_end0
  exact ⟨rfl, c4, H4, m1.trans (m2.trans (m3.trans m4))⟩

/-- What a template's end does where the current node is a template. -/
theorem lv_of {w : World} {c : Col} {h : Hd} {st : St} (hsd : h.sd ≠ 0) {N : Nat} (wf : Wf N st) (hN : N ≤ 9000000) (hs : st.stk.length ≤ 100) {l : List OpE} {n : Int} (ht : TopT st l n) (hf : st.fmt = [-1]) (hml : st.modes.length ≤ 1000000) {L : Nat} (hL : st.modes.length = L + 1)
    (hby : ByOk w c) (hm : MLen w c) (hnm : ∀ (i : Nat) (n : Nd), st.ns[i]? = some n → n.name.size ≤ maxLen) : Lv h st w c := by
  refine ⟨fun W C HW mW => ?_, fun W C HW mW => hLeave HW wf hN hs ht hf hml hL (hby.mv mW (Pr.ne hsd)) hnm⟩
  refine (sThorough HW (by omega) ht (hm.mv mW (Pr.ne hsd))).mono ?_
  rintro e w2 ⟨rfl, rfl⟩
  exact ⟨rfl, C, HW, Mv.refl _ _ _⟩
end Go.Proofs.YtjmlkmlbhfkhbaaGreatDoor
