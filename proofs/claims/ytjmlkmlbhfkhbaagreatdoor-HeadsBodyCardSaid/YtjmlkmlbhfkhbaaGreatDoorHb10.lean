/-
  The builder's lost and Rebuild for a list of one element that is not open.
  Plain laws of a node's element kids: what stays where nodes come.
  Arena.Text at the end of a parent's kids.
-/
import Derived.Test.YtjmlkmlbhfkhbaaGreatDoorHb09
import Derived.Test.YtjmlkmlbhfkhbaaGreatDoorHb08
import Derived.BigQuiet
import Derived.Deep.RegionLaw
set_option linter.unusedSimpArgs false
set_option linter.unusedVariables false
namespace Go.Proofs.YtjmlkmlbhfkhbaaGreatDoor
open Go Go.RowKit

theorem bdrewN (w : World) (m : Nat) : Below w.heap.size w (w.drewN m) := ⟨rfl, rfl, rfl, Nat.le_refl _, fun _ _ => rfl⟩
/-- Where a builder's parts lie. -/
theorem BRep.ptrs {w : World} {c : Col} {h : Hd} {st : St} (H : BRep w c h st) : w.cell? ⟨h.b, 0, none⟩ = some (.pointer (some ⟨h.a, 0, none⟩)) ∧ w.cell? ⟨h.b, 1, none⟩ = some (.pointer (some ⟨h.s, 0, none⟩)) ∧ w.cell? ⟨h.b, 2, none⟩ = some (.pointer (some ⟨h.l, 0, none⟩)) := by
  obtain ⟨b0, b1, b2, -⟩ := H.choose_spec.bc
  exact ⟨b0, b1, b2⟩

section
variable {w : World} {c : Col} {h : Hd} {st : St}

set_option maxRecDepth 100000 in
set_option maxHeartbeats 2000000 in
theorem bLost1 (H : BRep w c h st) {i : Nat} (hf : st.fmt = [(i : Int)]) (hl : st.stk.length ≤ 1000000) (hno : notOpen st.stk i) :
    Calls Tryz.prog 69 #[.pointer (some ⟨h.b, 0, none⟩)] w fun e w' => e = .returned (.int .i64 0) ∧ Below w.heap.size w w' := by
  have FVs := Lib.hid (fun (W : World) (hW : Below w.heap.size w W) => (H.loc hW).fv (by rw [hf]; simp))
  rw [hf] at FVs
  have SVs := Lib.hid (fun (W : World) (hW : Below w.heap.size w W) => (H.loc hW).sv hl)
  have NO := Lib.hid hno
  obtain ⟨b0, b1, b2⟩ := H.ptrs
  have BC := Lib.hid (fun (W : World) (hW : Below w.heap.size w W) => (H.loc hW).ptrs)
  obtain ⟨fA, fc, F0⟩ := FVs.out _ (Below.refl _ _)
  have L0 := Lib.hid (fLen F0)
  have A0 := Lib.hid (fAt F0 (k := 0) (n := (i : Int)) rfl)
  have hi1 : ((i : Int) == -1) = false := by
    have : (i : Int) ≠ -1 := by omega
    simp [this]
  rw [hi1] at A0
  clear H hf hno F0
  go_enter Tryz.func69, Tryz.ntmps69
  go_wp2_with (go_at_call 70; refine L0.out.mono ?_; rintro e w1 ⟨rfl, rfl⟩)
  go_loopw [3] (fun t wr => (t = .int .i64 1 ∧ wr = w) ∨ (t = .int .i64 0 ∧ Below w.heap.size w wr)) (fun t _ => (intOf t).toNat)
  case atStart => exact .inl ⟨rfl, rfl⟩
  case round =>
    rcases hrel with ⟨rfl, rfl⟩ | ⟨rfl, hb⟩
    · go_wp2_with (go_at_call 62; refine A0.out.mono ?_; rintro e w1 ⟨rfl, m, rfl⟩)
      have hB := bdrewN wr m
      obtain ⟨sA, sc, S1⟩ := SVs.out _ hB
      have IX := Lib.hid (sIndexNone S1 (i : Int) NO.out)
      obtain ⟨q0, q1, q2⟩ := BC.out _ hB
      clear S1
      go_wp2_with (go_at_call 120; refine IX.out.mono ?_; rintro e w1 ⟨rfl, rfl⟩)
      go_round
      case rel => exact .inr ⟨rfl, hB⟩
      case measure => decide
    · go_wp2_with fail
      go_ret
      exact ⟨rfl, hb⟩

/-- The tag of an open formatting element, of its node. -/
def rebM (st : St) (n : Nd) : St := { insM st (agTok n none 0) 0 with fmt := [(st.ns.length : Int)] }

set_option maxRecDepth 100000 in
set_option maxHeartbeats 4000000 in
theorem bRebuild1 (H : BRep w c h st) {N : Nat} (wf : Wf N st) (hN : N ≤ 1000000) {i : Nat} {n : Nd} (hf : st.fmt = [(i : Int)]) (hl : st.stk.length < 512) (hno : notOpen st.stk i)
    (hi : st.ns[i]? = some n) (hk : n.kind = 3) (hta : n.attrs.length ≤ 1000) :
    Calls Tryz.prog 24 #[.pointer (some ⟨h.b, 0, none⟩)] w (OkB h (rebM st n) (.tuple #[]) w c) := by
  have N1 := Lib.hid (bNone H)
  have LO := Lib.hid (bLost1 H hf (by omega) hno)
  have FVs := Lib.hid (fun (W : World) (hW : Below w.heap.size w W) => (H.loc hW).fv (by rw [hf]; simp))
  have PT := Lib.hid (fun (W : World) (hW : Below w.heap.size w W) => (H.loc hW).ptrs)
  rw [hf] at FVs
  have ND := Lib.hid (fun (W : World) (hW : Below w.heap.size w W) => aNodeB (H.loc hW) wf.sz (by omega) hi)
  have IN := Lib.hid (fun (W : World) (hW : Below w.heap.size w W) (A : Option Addr) (c1 : Nat) (hs : Src W A (attrCells n.attrs)) => bInsert (H.loc hW) wf (by omega) hl (agTok n A c1) 0 hs hta)
  have e0 : ∀ A c1, insM st (agTok n A c1) 0 = insM st (agTok n none 0) 0 := fun A c1 => rfl
  have W2 := wf.ins (agTok n none 0) 0 hta
  obtain ⟨m, hm, hmk⟩ : ∃ m, (insM st (agTok n none 0) 0).ns[st.ns.length]? = some m ∧ m.kind = 3 := by
    obtain ⟨k, n1⟩ := addN_new st.ns (elC (agTok n none 0) 0).nd
    obtain ⟨m, hm⟩ := hangN_some (p := plIx st.ns (tgtIx st)) (i := st.ns.length) n1
    have hpl : plIx st.ns (tgtIx st) < st.ns.length := by
      obtain ⟨n, t1, t2, t3⟩ := wf.tgt
      obtain ⟨np, p1, p2, p3⟩ := wf.place t1 t3
      exact (List.getElem?_eq_some_iff.1 p1).1
    obtain ⟨n', hn', f1, -⟩ := hangN_cases (by omega) hm
    rw [n1] at hn'
    obtain rfl := Option.some.inj hn'
    exact ⟨m, hm, by rw [f1]; rfl⟩
  have RP := Lib.hid (fun (W : World) (c2 : Col) (H2 : BRep W c2 h (insM st (agTok n none 0) 0)) => fReplace0 H2 W2.sz (by omega) (a := (i : Int)) hf hm hmk)
  have hi1 : ((i : Int) == -1) = false := by
    have : (i : Int) ≠ -1 := by omega
    simp [this]
  have h0 : (0 : Int) ≤ (st.ns.length : Int) := by omega
  obtain ⟨b0, b1, b2⟩ := H.ptrs
  clear H wf hf hno hi hm W2
  go_enter Tryz.func24, Tryz.ntmps24
  go_wp2_with (first
    | (go_at_call 63; refine N1.out.mono ?_; rintro e w1 ⟨rfl, rfl⟩)
    | (go_at_call 69; refine LO.out.mono ?_; rintro e w1 ⟨rfl, hb1⟩))
  clear b0 b1 b2
  go_loopw [2] (fun t wr => (t = .int .i64 0 ∧ Below w.heap.size w wr) ∨ (t = .int .i64 1 ∧ ∃ c', BRep wr c' h (rebM st n) ∧ Mv (Pr h) w c wr c')) (fun t _ => 1 - (intOf t).toNat)
  case atStart => exact .inl ⟨rfl, hb1⟩
  case round =>
    rcases hrel with ⟨rfl, hb⟩ | ⟨rfl, c3, H3, hm3⟩
    · obtain ⟨b0, b1, b2⟩ := PT.out _ hb
      obtain ⟨fA, fc, F0⟩ := FVs.out _ hb
      have L0 := Lib.hid (fLen F0)
      have A0 := Lib.hid (fAt F0 (k := 0) (n := (i : Int)) rfl)
      rw [hi1] at A0
      clear F0
      go_wp2_with (first
        | (go_at_call 70; refine L0.out.mono ?_; rintro e w1 ⟨rfl, rfl⟩)
        | (go_at_call 62; refine A0.out.mono ?_; rintro e w1 ⟨rfl, m, rfl⟩; have hB := below_step hb (bdrewN wr m); obtain ⟨q0, q1, q2⟩ := PT.out _ hB)
        | (go_at_call 72; refine (ND.out _ hB).mono ?_; rintro e w2 ⟨A, c1, K, c2, rfl, hb2, hr2, -⟩; have hB2 := below_step hB hb2)
        | (go_at_call 71; refine (bAgain _ n A c1 K c2).mono ?_; rintro e w3 ⟨rfl, hb3⟩; have hs3 := hr2.src.loc hb3; have hB3 := below_step hB2 hb3)
        | (go_at_call 45; refine (IN.out _ hB3 A c1 hs3).mono ?_; intro e w4 ho; obtain ⟨rfl, c4, H4, hm4⟩ := ho.after hB3; rw [e0] at H4; obtain ⟨r0, r1, r2⟩ := H4.ptrs)
        | (go_at_call 73; refine (RP.out _ _ H4).mono ?_; rintro e w5 ⟨rfl, c5, H5, hm5⟩))
      go_round
      case rel => exact .inr ⟨rfl, c5, H5, hm4.trans hm5⟩
      case measure => decide
    · obtain ⟨b0, b1, b2⟩ := H3.ptrs
      obtain ⟨fA, fc, F0⟩ := H3.fv (by simp [rebM])
      have L0 := Lib.hid (fLen F0)
      clear F0
      have HM := Lib.hid (And.intro H3 hm3)
      clear H3 hm3
      go_wp2_with (go_at_call 70; refine L0.out.mono ?_; rintro e w1 ⟨rfl, rfl⟩)
      go_end0
      exact ⟨rfl, c3, HM.out.1, HM.out.2⟩
end

end Go.Proofs.YtjmlkmlbhfkhbaaGreatDoor
namespace Go.Proofs.YtjmlkmlbhfkhbaaGreatDoor
open Go Go.RowKit

def kindAt (ns : List Nd) (k : Int) : Int := match ns[k.toNat]? with | some n => n.kind | none => 0
def ek (ns : List Nd) (i : Nat) : List Int := match ns[i]? with | some n => n.kids.filter (fun k => kindAt ns k == 3) | none => []

structure Keep (ns ns' : List Nd) : Prop where
  len : ns.length ≤ ns'.length
  nd : ∀ (i : Nat) (n : Nd), ns[i]? = some n → ∃ m, ns'[i]? = some m ∧ m.kind = n.kind ∧ m.name = n.name ∧ m.space = n.space
structure Quiet (ns ns' : List Nd) : Prop where
  keep : Keep ns ns'
  eks : ∀ i, i < ns.length → ek ns' i = ek ns i
structure Grown (ns ns' : List Nd) (p : Nat) (nm : Str) (sp : Int) : Prop where
  keep : Keep ns ns'
  at_ : ek ns' p = ek ns p ++ [(ns.length : Int)]
  eks : ∀ i, i < ns.length → i ≠ p → ek ns' i = ek ns i
  new : ∃ m, ns'[ns.length]? = some m ∧ m.kind = 3 ∧ m.name = nm ∧ m.space = sp
  none_ : ek ns' ns.length = []

def KidsIn (ns : List Nd) : Prop := ∀ (i : Nat) (n : Nd), ns[i]? = some n → ∀ k ∈ n.kids, 0 ≤ k ∧ k < (ns.length : Int)

theorem Keep.refl (ns : List Nd) : Keep ns ns := ⟨Nat.le_refl _, fun i n h => ⟨n, h, rfl, rfl, rfl⟩⟩
theorem Keep.trans {a b c : List Nd} (h : Keep a b) (k : Keep b c) : Keep a c :=
  ⟨Nat.le_trans h.len k.len, fun i n hn => by
    obtain ⟨m, h1, h2, h3, h4⟩ := h.nd i n hn
    obtain ⟨q, k1, k2, k3, k4⟩ := k.nd i m h1
    exact ⟨q, k1, k2.trans h2, k3.trans h3, k4.trans h4⟩⟩
theorem Quiet.refl (ns : List Nd) : Quiet ns ns := ⟨Keep.refl ns, fun _ _ => rfl⟩
theorem Quiet.trans {a b c : List Nd} (h : Quiet a b) (k : Quiet b c) : Quiet a c :=
  ⟨h.keep.trans k.keep, fun i hi => (k.eks i (Nat.lt_of_lt_of_le hi h.keep.len)).trans (h.eks i hi)⟩
theorem Keep.kindAt {a b : List Nd} (h : Keep a b) {k : Int} (h0 : 0 ≤ k) (hk : k < (a.length : Int)) : kindAt b k = kindAt a k := by
  obtain ⟨m, h1, h2, -⟩ := h.nd k.toNat a[k.toNat] (List.getElem?_eq_getElem (by omega))
  unfold Go.Proofs.YtjmlkmlbhfkhbaaGreatDoor.kindAt
  rw [h1, List.getElem?_eq_getElem (show k.toNat < a.length by omega)]
  exact h2

theorem ek_same {a b : List Nd} (h : Keep a b) (hin : KidsIn a) {i : Nat} {n m : Nd} (hn : a[i]? = some n) (hm : b[i]? = some m) (e : m.kids = n.kids) : ek b i = ek a i := by
  unfold ek
  rw [hn, hm]
  simp only [e]
  refine List.filter_congr fun k hk => ?_
  obtain ⟨h0, h1⟩ := hin i n hn k hk
  rw [h.kindAt h0 h1]
theorem ek_more {a b : List Nd} (h : Keep a b) (hin : KidsIn a) {i : Nat} {n m : Nd} (hn : a[i]? = some n) (hm : b[i]? = some m) {j : Int} (e : m.kids = n.kids ++ [j]) : ek b i = ek a i ++ (if kindAt b j == 3 then [j] else []) := by
  unfold ek
  rw [hn, hm]
  simp only [e, List.filter_append]
  congr 1
  · refine List.filter_congr fun k hk => ?_
    obtain ⟨h0, h1⟩ := hin i n hn k hk
    rw [h.kindAt h0 h1]
  · simp only [List.filter]
    split <;> simp_all

theorem hangN_at {ns : List Nd} {p i : Nat} {np ni : Nd} (hp : ns[p]? = some np) (hi : ns[i]? = some ni) (hpi : p ≠ i) : (hangN ns p i)[p]? = some { np with kids := np.kids ++ [(i : Int)] } := by
  have h1 := (List.getElem?_eq_some_iff.1 hp).1
  unfold hangN
  rw [hp, hi]
  simp only
  rw [List.getElem?_set_ne (Ne.symm hpi), List.getElem?_set_self h1]

theorem keep_put {ns : List Nd} {nd : Nd} {p : Nat} (hp : p < ns.length) : Keep ns (hangN (addN ns nd) p ns.length) := by
  refine ⟨by rw [hangN_len]; have := (addN_len ns nd).1; omega, fun i n hn => ?_⟩
  have hi := (List.getElem?_eq_some_iff.1 hn).1
  obtain ⟨m, hm⟩ := hangN_some (p := p) (i := ns.length) (show (addN ns nd)[i]? = some n by rw [addN_old hi]; exact hn)
  obtain ⟨n', h1, f1, f2, f3, f4, -⟩ := hangN_cases (by omega) hm
  rw [addN_old hi, hn] at h1
  obtain rfl := Option.some.inj h1
  exact ⟨m, hm, f1, f2, f4⟩

/-- Behind a put: the place, the others, the new one. -/
theorem put_parts {ns : List Nd} {nd : Nd} {p : Nat} (hin : KidsIn ns) (hp : p < ns.length) :
    (∃ m, (hangN (addN ns nd) p ns.length)[ns.length]? = some m ∧ m.kind = nd.kind ∧ m.name = nd.name ∧ m.space = nd.space ∧ m.kids = []) ∧
    (∀ i, i < ns.length → i ≠ p → ek (hangN (addN ns nd) p ns.length) i = ek ns i) ∧
    ek (hangN (addN ns nd) p ns.length) p = ek ns p ++ (if nd.kind == 3 then [(ns.length : Int)] else []) := by
  have K := keep_put (nd := nd) hp
  obtain ⟨k, n1⟩ := addN_new ns nd
  obtain ⟨np, hnp⟩ : ∃ np, ns[p]? = some np := ⟨_, List.getElem?_eq_getElem hp⟩
  have p1 : (addN ns nd)[p]? = some np := by rw [addN_old hp]; exact hnp
  have hat := hangN_at p1 n1 (by omega)
  have hnew : ∃ m, (hangN (addN ns nd) p ns.length)[ns.length]? = some m ∧ m.kind = nd.kind ∧ m.name = nd.name ∧ m.space = nd.space ∧ m.kids = [] := by
    obtain ⟨m, hm⟩ := hangN_some (p := p) (i := ns.length) n1
    obtain ⟨n', h1, f1, f2, f3, f4, f5, f6, f7, f8⟩ := hangN_cases (by omega) hm
    rw [n1] at h1
    obtain rfl := Option.some.inj h1
    refine ⟨m, hm, f1, f2, f4, ?_⟩
    rcases f8 with f8 | ⟨f8, -⟩
    · exact f8
    · omega
  refine ⟨hnew, fun i hi hip => ?_, ?_⟩
  · obtain ⟨n, hn⟩ : ∃ n, ns[i]? = some n := ⟨_, List.getElem?_eq_getElem hi⟩
    obtain ⟨m, hm⟩ := hangN_some (p := p) (i := ns.length) (show (addN ns nd)[i]? = some n by rw [addN_old hi]; exact hn)
    obtain ⟨n', h1, f1, f2, f3, f4, f5, f6, f7, f8⟩ := hangN_cases (by omega) hm
    rw [addN_old hi, hn] at h1
    obtain rfl := Option.some.inj h1
    rcases f8 with f8 | ⟨f8, -⟩
    · exact ek_same K hin hn hm f8
    · exact absurd f8 hip
  · have := ek_more K hin hnp hat (j := (ns.length : Int)) rfl
    rw [this]
    obtain ⟨m, hm, e1, -⟩ := hnew
    have : kindAt (hangN (addN ns nd) p ns.length) (ns.length : Int) = nd.kind := by
      unfold kindAt
      rw [Int.toNat_natCast, hm]
      exact e1
    rw [this]

theorem quiet_put {ns : List Nd} {nd : Nd} {p : Nat} (hin : KidsIn ns) (hp : p < ns.length) (hk : nd.kind ≠ 3) : Quiet ns (hangN (addN ns nd) p ns.length) := by
  obtain ⟨-, h2, h3⟩ := put_parts (nd := nd) hin hp
  refine ⟨keep_put hp, fun i hi => ?_⟩
  by_cases hip : i = p
  · subst hip
    rw [h3, if_neg (by simpa using hk), List.append_nil]
  · exact h2 i hi hip
theorem grown_put {ns : List Nd} {nd : Nd} {p : Nat} (hin : KidsIn ns) (hp : p < ns.length) (hk : nd.kind = 3) : Grown ns (hangN (addN ns nd) p ns.length) p nd.name nd.space := by
  obtain ⟨⟨m, h1, e1, e2, e3, e4⟩, h2, h3⟩ := put_parts (nd := nd) hin hp
  refine ⟨keep_put hp, ?_, h2, ⟨m, h1, e1.trans hk, e2, e3⟩, ?_⟩
  · rw [h3, if_pos (by simpa using hk)]
  · unfold ek
    rw [h1]
    simp [e4]
theorem quiet_set {ns : List Nd} {j : Nat} {n m : Nd} (hin : KidsIn ns) (hn : ns[j]? = some n) (e1 : m.kind = n.kind) (e2 : m.name = n.name) (e3 : m.space = n.space) (e4 : m.kids = n.kids) : Quiet ns (ns.set j m) := by
  have hj := (List.getElem?_eq_some_iff.1 hn).1
  have K : Keep ns (ns.set j m) := by
    refine ⟨by simp, fun i q hq => ?_⟩
    by_cases hij : j = i
    · subst hij
      rw [hn] at hq
      obtain rfl := Option.some.inj hq
      exact ⟨m, List.getElem?_set_self hj, e1, e2, e3⟩
    · exact ⟨q, by rw [List.getElem?_set_ne hij]; exact hq, rfl, rfl, rfl⟩
  refine ⟨K, fun i hi => ?_⟩
  by_cases hij : j = i
  · subst hij
    exact ek_same K hin hn (List.getElem?_set_self hj) e4
  · obtain ⟨q, hq⟩ : ∃ q, ns[i]? = some q := ⟨_, List.getElem?_eq_getElem hi⟩
    exact ek_same K hin hq (by rw [List.getElem?_set_ne hij]; exact hq) rfl
end Go.Proofs.YtjmlkmlbhfkhbaaGreatDoor
namespace Go.Proofs.YtjmlkmlbhfkhbaaGreatDoor
open Go Go.RowKit

def txtNd (s : Str) : Nd := { kind := 4, name := ⟨#[]⟩, text := s, space := 0, attrs := [], dup := false, parent := 0, content := 0, kids := [], frm := -1, to_ := -1 }
def txtC (s : Str) : NdC := { nd := txtNd s, aA := none, acap := 0, kA := none, kcap := 0 }
/-- The nodes where a text has come behind p's kids. -/
def textN (ns : List Nd) (p : Nat) (s : Str) : List Nd :=
  if eqS s ⟨#[]⟩ then ns else
  match ns[p]? with
  | none => ns
  | some np => match np.kids[np.kids.length - 1]? with
    | none => hangN (addN ns (txtNd s)) p ns.length
    | some k => match ns[k.toNat]? with
      | none => ns
      | some nl => if nl.kind = 4 then ns.set k.toNat { nl with text := nl.text ++ s } else hangN (addN ns (txtNd s)) p ns.length

theorem wrap_small {L : Nat} (h : L ≤ 1000000000) : IntKind.i64.wrap (L : Int) = (L : Int) := by unfold IntKind.wrap; simp [IntKind.bits, IntKind.signed]; omega

set_option maxRecDepth 100000 in
set_option maxHeartbeats 4000000 in
theorem aText {w : World} {c : Col} {h : Hd} {st : St} (H : BRep w c h st) {N : Nat} (wf : Wf N st) (hN : N ≤ 10000000) {p : Nat} {np : Nd} (hp : st.ns[p]? = some np)
    (hkp : np.kind = 1 ∨ np.kind = 3 ∨ np.kind = 6) (s : Str) (hs : s.size ≤ 1000) :
    Calls Tryz.prog 67 #[.pointer (some ⟨h.a, 0, none⟩), .int .i64 p, .int .i64 (-1), .string s] w (OkB h { st with ns := textN st.ns p s } (.int .i64 0) w c) := by
  have HH := Lib.hid H
  obtain ⟨X, H⟩ := H
  have hlen : X.cs.length = st.ns.length := by rw [← H.ns]; simp
  have AVw := H.av (by have := wf.sz.1; omega)
  obtain ⟨yp, hyp, rfl⟩ := H.nodeOf hp
  have NO := Lib.hid (aNone AVw (by have := wf.sz.2.1; omega))
  have HO := Lib.hid (aHolds AVw hyp hkp)
  have a0 := AVw.1
  obtain ⟨-, -, -, -, -, -, -, -, p8, -⟩ := AVw.node hyp
  have hpl : p < X.cs.length := (List.getElem?_eq_some_iff.1 hyp).1
  have hp0 : (0 : Int) ≤ (p : Int) := by omega
  have hp1 : (p : Int) < X.cs.length := by omega
  have RK := Lib.hid (H.nodes.each p yp hyp).1
  have hkl : yp.nd.kids.length ≤ N := (wf.sz.2.2 p yp.nd hp).2.1
  by_cases he : eqS s ⟨#[]⟩ = true
  · have he' : (s.toList == []) = true := by rw [← toList_mk []]; exact he
    have FIN : Hid (textN st.ns p s = st.ns) := Lib.hid (by unfold textN; rw [he]; rfl)
    clear he p8 wf hp
    go_enter Tryz.func67, Tryz.ntmps67
    go_wp2_with (first
      | (go_at_call 111; refine NO.out.mono ?_; rintro e w1 ⟨rfl, rfl⟩)
      | (go_at_call 116; refine HO.out.mono ?_; rintro e w1 ⟨rfl, rfl⟩))
    go_ret
    exact ⟨rfl, c, by rw [FIN.out]; exact HH.out, Mv.refl _ _ _⟩
  · have he0 : eqS s ⟨#[]⟩ = false := by simpa using he
    have he' : (s.toList == []) = false := by rw [← toList_mk []]; exact he0
    -- the node that is added
    have ADD : Hid (textN st.ns p s = hangN (addN st.ns (txtNd s)) p st.ns.length → ∀ W, Below w.heap.size w W → Calls Tryz.prog 68 #[.pointer (some ⟨h.a, 0, none⟩), (txtC s).val] W fun e w' => e = .returned (.int .i64 st.ns.length) ∧
        Calls Tryz.prog 115 #[.pointer (some ⟨h.a, 0, none⟩), .int .i64 p, .int .i64 (-1), .int .i64 st.ns.length] w' fun e w2 => OkB h { st with ns := textN st.ns p s } (.tuple #[]) w c e w2) := Lib.hid fun hq W hW => by
      refine (aAdd (HH.out.loc hW) (txtC s) (.inr (.inr (.inl rfl))) (by have := wf.sz.1; omega) (by simp [txtC, txtNd]) ⟨fun _ => rfl, fun _ e => by cases e⟩ wf.sz.2.1).mono ?_
      rintro e w1 ⟨rfl, c1, H1, m1⟩
      refine ⟨rfl, ?_⟩
      have W1 : Wf (N + 1002) { st with ns := addN st.ns (txtNd s) } := wf.add (by omega) (by simp [txtNd]) (by simp [txtNd]; omega)
      obtain ⟨k, n1⟩ := addN_new st.ns (txtNd s)
      have p1 : (addN st.ns (txtNd s))[p]? = some yp.nd := by rw [addN_old (by omega)]; exact hp
      refine (aHang H1 p1 n1 rfl (by omega) (show (addN st.ns (txtNd s)).length ≤ 1000000000 by have : (addN st.ns (txtNd s)).length ≤ N + 1002 := W1.sz.1; omega) (by omega)).mono ?_
      rintro e w2 ⟨rfl, c2, H2, m2⟩
      exact ⟨rfl, c2, by rw [hq]; exact H2, (Mv.of_below hW).trans (m1.trans m2)⟩
    have KID := Lib.hid (fun k hk => wf.kid p yp.nd hp k hk)
    have TS := Lib.hid wf.sz.2.2
    have XH := Lib.hid H
    by_cases h0 : yp.nd.kids.length = 0
    · have hq : textN st.ns p s = hangN (addN st.ns (txtNd s)) p st.ns.length := by
        unfold textN
        have : yp.nd.kids[yp.nd.kids.length - 1]? = none := List.getElem?_eq_none (by omega)
        simp only [he0, hp, this]
        rfl
      have AD := Lib.hid (fun m => ADD.out hq (w.drewN m) ⟨rfl, rfl, rfl, Nat.le_refl _, fun _ _ => rfl⟩)
      rw [h0] at p8
      have eC : (txtC s).val = .agg #[.int .i64 4, .string ⟨#[]⟩, .string s, .int .i64 0, .slice none 0 0, .bool false, .int .i64 0, .int .i64 0, .slice none 0 0, .int .i64 (-1), .int .i64 (-1)] := rfl
      rw [eC] at AD
      clear he he0 wf hp hq eC
      go_enter Tryz.func67, Tryz.ntmps67
      go_wp2_with (first
        | (go_at_call 111; refine NO.out.mono ?_; rintro e w1 ⟨rfl, rfl⟩)
        | (go_at_call 116; refine HO.out.mono ?_; rintro e w1 ⟨rfl, rfl⟩))
      go_quiet (fail)
      go_wp2_with fail
      refine (AD.out _).mono ?_
      rintro e w1 ⟨rfl, C2⟩
      go_wp2_with fail
      refine C2.mono ?_
      rintro e w2 ⟨rfl, c2, H2, m2⟩
      go_wp2_with fail
      go_ret
      exact ⟨rfl, c2, H2, m2⟩
    · obtain ⟨k, hk⟩ : ∃ k, yp.nd.kids[yp.nd.kids.length - 1]? = some k := ⟨_, List.getElem?_eq_getElem (by omega)⟩
      obtain ⟨hk0, hk1⟩ := KID.out k (List.mem_of_getElem? hk)
      obtain ⟨j, rfl⟩ : ∃ j : Nat, k = (j : Int) := ⟨k.toNat, by omega⟩
      obtain ⟨nl, hnl⟩ : ∃ nl, st.ns[j]? = some nl := ⟨_, List.getElem?_eq_getElem (by omega)⟩
      obtain ⟨yl, hyl, rfl⟩ := H.nodeOf hnl
      have hjl : j < X.cs.length := (List.getElem?_eq_some_iff.1 hyl).1
      obtain ⟨g, eA, hcg, hgl, hc, -⟩ := RK.out.at_ (by omega)
      have c1 := hc (yp.nd.kids.length - 1) (.int .i64 (j : Int)) (by simp [intCells, hk])
      rw [eA] at p8
      obtain ⟨l0, -, l2, -⟩ := AVw.node hyl
      obtain ⟨fz, hgnl⟩ := H.fz (by omega)
      have f2 := fz (j * 11 + 2)
      obtain ⟨L, hL⟩ : ∃ L, yp.nd.kids.length = L + 1 := ⟨yp.nd.kids.length - 1, by omega⟩
      rw [hL] at p8
      have c1' : w.cell? ⟨g, L, none⟩ = some (.int .i64 (j : Int)) := by
        rw [hL] at c1
        exact c1
      have i0 : (0 : Int) ≤ (L : Int) := by omega
      have i1 : (L : Int) < (L : Int) + 1 := by omega
      clear c1
      have j0 : (0 : Int) ≤ (j : Int) := by omega
      have j1 : (j : Int) < (X.cs.length : Int) := by omega
      have tsz : yl.nd.text.size ≤ N := (TS.out j yl.nd hnl).2.2
      have HAL := H.ha.lt
      by_cases h4 : yl.nd.kind = 4
      · have hq : textN st.ns p s = st.ns.set j { yl.nd with text := yl.nd.text ++ s } := by
          unfold textN
          rw [he0, hp]
          simp only [hk, Int.toNat_natCast, hnl, if_pos h4]
          rfl
        have FIN : Hid (∀ m : Nat, OkB h { st with ns := textN st.ns p s } (.int .i64 0) w c (.returned (.int .i64 0)) ((w.drewN m).setCell ⟨X.gn, j * 11 + 2, none⟩ (.string (yl.nd.text ++ s)))) := Lib.hid fun m => by
          have hb : Below w.heap.size w (w.drewN m) := ⟨rfl, rfl, rfl, Nat.le_refl _, fun _ _ => rfl⟩
          have H2 : BRepX (w.drewN m) c h X st := H.kp (fun p i => (Mv.of_below (S := fun _ => False) hb).kp id) ((Mv.of_below (S := fun _ => False) hb).gd H.gd)
          obtain ⟨H3, m3⟩ := setNode (y' := { yl with nd := { yl.nd with text := yl.nd.text ++ s } }) (v := .string (yl.nd.text ++ s)) H2 hyl (j := 2) (by omega) rfl ⟨rfl, rfl, rfl⟩ ⟨rfl, rfl, rfl⟩
          exact ⟨rfl, c, ⟨_, by rw [hq]; exact H3⟩, (Mv.of_below hb).trans m3⟩
        rw [h4] at l0
        clear he he0 wf hp hq hk hnl hyl hyp eA hc fz h4
        go_enter Tryz.func67, Tryz.ntmps67
        go_wp2_with (first
          | (go_at_call 111; refine NO.out.mono ?_; rintro e w1 ⟨rfl, rfl⟩)
          | (go_at_call 116; refine HO.out.mono ?_; rintro e w1 ⟨rfl, rfl⟩))
        go_quiet (fail)
        have hwr : IntKind.i64.wrap (L : Int) = (L : Int) := wrap_small (by omega)
        have hmx2 : ¬ (9223372036854775807 < yl.nd.text.size + s.size) := by omega
        have hmx : yl.nd.text.size + s.size ≤ maxLen := by unfold maxLen; omega
        go_wp2_with fail
        go_region_law (fail)
        all_goals
          go_wp2_with fail
          go_ret
          first
            | exact FIN.out _
            | exact FIN.out (_ + 1)
      · have hq : textN st.ns p s = hangN (addN st.ns (txtNd s)) p st.ns.length := by
          unfold textN
          rw [he0, hp]
          simp only [hk, Int.toNat_natCast, hnl, if_neg h4]
          rfl
        have h4' : (yl.nd.kind == 4) = false := by simp [h4]
        have AD := Lib.hid (fun m => ADD.out hq (w.drewN m) ⟨rfl, rfl, rfl, Nat.le_refl _, fun _ _ => rfl⟩)
        have eC : (txtC s).val = .agg #[.int .i64 4, .string ⟨#[]⟩, .string s, .int .i64 0, .slice none 0 0, .bool false, .int .i64 0, .int .i64 0, .slice none 0 0, .int .i64 (-1), .int .i64 (-1)] := rfl
        rw [eC] at AD
        clear he he0 wf hp hq hk hnl hyl hyp eA hc fz eC h4
        go_enter Tryz.func67, Tryz.ntmps67
        go_wp2_with (first
          | (go_at_call 111; refine NO.out.mono ?_; rintro e w1 ⟨rfl, rfl⟩)
          | (go_at_call 116; refine HO.out.mono ?_; rintro e w1 ⟨rfl, rfl⟩))
        go_quiet (fail)
        go_wp2_with fail
        refine (AD.out _).mono ?_
        rintro e w1 ⟨rfl, C2⟩
        go_wp2_with fail
        refine C2.mono ?_
        rintro e w2 ⟨rfl, c2, H2, m2⟩
        go_wp2_with fail
        go_ret
        exact ⟨rfl, c2, H2, m2⟩
end Go.Proofs.YtjmlkmlbhfkhbaaGreatDoor
