/-
  The formatting list's functions: Len, none, At, may, lay, Mark, and Push onto an empty list.
-/
import Derived.Test.YtjmlkmlbhfkhbaaGreatDoorBld4
namespace Go.Proofs.YtjmlkmlbhfkhbaaGreatDoor
open Go Go.RowKit

def FV (w : World) (l a : Nat) (A : Option Addr) (cap : Nat) (fmt : List Int) : Prop :=
  w.cell? ⟨l, 0, none⟩ = some (.pointer (some ⟨a, 0, none⟩)) ∧ w.cell? ⟨l, 1, none⟩ = some (.slice A fmt.length cap) ∧ fmt.length ≤ 1000000 ∧
  (0 < fmt.length → ∃ g, A = some ⟨g, 0, none⟩ ∧ (∀ k n, fmt[k]? = some n → w.cell? ⟨g, k, none⟩ = some (.int .i64 n)) ∧ ∀ k, w.frozen? ⟨g, k, none⟩ = false)

theorem BRepX.fv {w : World} {c : Col} {h : Hd} {x : Sh} {st : St} (H : BRepX w c h x st) (hl : st.fmt.length ≤ 1000000) : FV w h.l h.a x.fA x.fcap st.fmt := by
  refine ⟨H.hl.cell 0, H.hl.cell 1, hl, fun h0 => ?_⟩
  obtain ⟨g, hA, -, -, hc, hf⟩ := H.fmt.at_ h0
  exact ⟨g, hA, fun k n hn => hc k _ (by simp [intCells, hn]), hf⟩

section
variable {w : World} {l a : Nat} {A : Option Addr} {cap : Nat} {fmt : List Int}
set_option maxHeartbeats 400000 in
theorem fLen (H : FV w l a A cap fmt) : Calls Tryz.prog 70 #[.pointer (some ⟨l, 0, none⟩)] w fun e w' => e = .returned (.int .i64 fmt.length) ∧ w = w' := by
  have a1 := H.2.1
  clear H
  go_enter Tryz.func70, Tryz.ntmps70
  go_wp2_with fail
  go_ret
  exact ⟨rfl, rfl⟩
set_option maxHeartbeats 400000 in
theorem fNone (H : FV w l a A cap fmt) : Calls Tryz.prog 153 #[.pointer (some ⟨l, 0, none⟩)] w fun e w' => e = .returned (.bool false) ∧ w = w' := by
  have a1 := H.1
  clear H
  go_enter Tryz.func153, Tryz.ntmps153
  go_wp2_with fail
  go_ret
  exact ⟨rfl, rfl⟩
set_option maxHeartbeats 1000000 in
theorem fAt (H : FV w l a A cap fmt) {k : Nat} {n : Int} (hk : fmt[k]? = some n) : Calls Tryz.prog 62 #[.pointer (some ⟨l, 0, none⟩), .int .i64 k] w fun e w' => e = .returned (.tuple #[.int .i64 n, .bool (n == -1)]) ∧ ∃ m, w' = w.drewN m := by
  have L := Lib.hid (fLen H)
  have hlt := (List.getElem?_eq_some_iff.1 hk).1
  obtain ⟨g, rfl, hc, -⟩ := H.2.2.2 (by omega)
  have c0 := hc k n hk
  have a1 := H.2.1
  have h0 : (0 : Int) ≤ (k : Int) := by omega
  have h1 : (k : Int) < (fmt.length : Int) := by omega
  clear H hc hk
  go_enter Tryz.func62, Tryz.ntmps62
  go_wp2_with (go_at_call 70; refine L.out.mono ?_; rintro e w1 ⟨rfl, rfl⟩)
  go_quiet (fail)
  go_wp2_with fail
  refine bodyPost_ret (results_tmp2 rfl _ _ _) rfl ?_
  exact ⟨rfl, _, rfl⟩
end

section
variable {w : World} {c : Col} {h : Hd} {st : St}
theorem fld0 (n : Nd) (A : Option Addr) (c1 : Nat) (K : Option Addr) (c2 : Nat) (W : World) : (Instr.field 58 (ndVal n A c1 K c2) 0).run Tryz.prog W = .ok (.int .i64 n.kind) W := by
  simp [Instr.field, run_underlying Tryz.underlying58, ndVal, asAgg, go_sem]
theorem fld6 (n : Nd) (A : Option Addr) (c1 : Nat) (K : Option Addr) (c2 : Nat) (W : World) : (Instr.field 58 (ndVal n A c1 K c2) 6).run Tryz.prog W = .ok (.int .i64 n.parent) W := by
  simp [Instr.field, run_underlying Tryz.underlying58, ndVal, asAgg, go_sem]

set_option maxRecDepth 100000 in
set_option maxHeartbeats 1000000 in
theorem fMay (H : BRep w c h st) {N : Nat} (hs : Sz N st) (hN : N ≤ 100000000) (hl : st.fmt.length ≤ 1000000) {i : Nat} {n : Nd} (hi : st.ns[i]? = some n) (hk : n.kind = 3) :
    Calls Tryz.prog 106 #[.pointer (some ⟨h.l, 0, none⟩), .int .i64 i] w fun e w' => e = .returned (.int .i64 0) ∧ Below w.heap.size w w' := by
  have ND := Lib.hid (aNodeB H hs hN hi)
  have N1 := Lib.hid (fNone (H.choose_spec.fv hl))
  have a0 := (H.choose_spec.fv hl).1
  have hk' : (n.kind != 3) = false := by simp [hk]
  clear H hs hi hk
  go_enter Tryz.func106, Tryz.ntmps106
  go_wp2_with (first
    | (go_at_call 153; refine N1.out.mono ?_; rintro e w1 ⟨rfl, rfl⟩)
    | (fail))
  refine ND.out.mono ?_
  rintro e w2 ⟨A, c1, K, c2, rfl, hb2, -, -⟩
  have fk := fld0 n A c1 K c2
  unfold ndVal at fk ⊢
  go_wp2_with fail
  go_ret
  exact ⟨rfl, hb2⟩

set_option maxRecDepth 100000 in
set_option maxHeartbeats 1000000 in
/-- lay at the end. -/
theorem fLay (H : BRep w c h st) (hl : st.fmt.length < 64) (i : Int) :
    Calls Tryz.prog 110 #[.pointer (some ⟨h.l, 0, none⟩), .int .i64 st.fmt.length, .int .i64 i] w (OkB h { st with fmt := st.fmt ++ [i] } (.int .i64 0) w c) := by
  obtain ⟨X, H⟩ := H
  have a1 : w.cell? ⟨h.l, 1, none⟩ = some (.slice X.fA st.fmt.length X.fcap) := H.hl.cell 1
  have hll := H.hl.lt
  have h1 : (st.fmt.length : Int) < 64 := by omega
  go_enter Tryz.func110, Tryz.ntmps110
  go_wp2_with fail
  refine Calls.mono (insInt (k := (h.sd, 9, 0)) (by exact H.fmt.kp (kp_below (below_alloc (Below.refl _ _) _))) i (by exact HB.at_ rfl) (by omega)) ?_
  rintro e w2 ⟨A2, cp2, c2, rfl, hrow2, hmv2⟩
  have hm0 : Mv (· = (h.sd, 9, 0)) w c w2 c2 := Mv.trans (Mv.of_below (below_alloc (Below.refl _ _) _)) hmv2
  have hl2 := H.hl.kp (hm0.kp (k := (h.sd, 8, 0)) (by simp))
  have m1 := hl2.cell 1
  have m2 := hl2.frozen 1
  simp only [List.getElem?_cons_succ, List.getElem?_cons_zero] at m1
  have hrow3 : RowOk w2 c2 (h.sd, 9, 0) 3 1 A2 (st.fmt ++ [i]).length cp2 (intCells (st.fmt ++ [i])) := by simpa [intCells] using hrow2
  have SS := setFmt H hrow3 hm0
  rw [show (st.fmt ++ [i]).length = st.fmt.length + 1 by simp] at SS
  have SSH := Lib.hid SS
  clear SS hrow3 hl2
  go_wp2_with fail
  go_ret
  exact ⟨rfl, c2, ⟨_, SSH.out.1⟩, SSH.out.2⟩

set_option maxHeartbeats 1000000 in
theorem fMark (H : BRep w c h st) (hl : st.fmt.length < 64) :
    Calls Tryz.prog 194 #[.pointer (some ⟨h.l, 0, none⟩)] w (OkB h { st with fmt := st.fmt ++ [-1] } (.int .i64 0) w c) := by
  have LY := Lib.hid (fLay H hl (-1))
  obtain ⟨X, H⟩ := H
  have N1 := Lib.hid (fNone (H.fv (by omega)))
  have a1 := (H.fv (by omega)).2.1
  clear H
  go_enter Tryz.func194, Tryz.ntmps194
  go_wp2_with (first
    | (go_at_call 153; refine N1.out.mono ?_; rintro e w1 ⟨rfl, rfl⟩)
    | (go_at_call 110; refine LY.out.mono ?_; rintro e w1 ⟨rfl, c1, H1, hm1⟩))
  go_ret
  exact ⟨rfl, c1, H1, hm1⟩

set_option maxHeartbeats 1000000 in
theorem fOpen0 {l a : Nat} {A : Option Addr} {cap : Nat} (H : FV w l a A cap []) : Calls Tryz.prog 108 #[.pointer (some ⟨l, 0, none⟩)] w fun e w' => e = .returned (.int .i64 0) ∧ w = w' := by
  have L := Lib.hid (fLen H)
  clear H
  go_enter Tryz.func108, Tryz.ntmps108
  go_wp2_with (first
    | (go_at_call 155; go_in)
    | (go_at_call 70; refine L.out.mono ?_; rintro e w1 ⟨rfl, rfl⟩))
  go_loop [7] (fun t => t = .int .i64 (-1)) (fun _ => 0)
  case atStart => rfl
  case round =>
    obtain rfl := hrel
    go_wp2_with fail
    go_ret
    exact ⟨rfl, rfl⟩
end

end Go.Proofs.YtjmlkmlbhfkhbaaGreatDoor
