/-
  Plain laws of a node's element kids: what stays where nodes come.
  Arena.Text at the end of a parent's kids.
  The shapes of a state that heads' steps keep.
  Where a shape's target and place lie.
  A shape where only texts, comments and attributes come.
-/
import Derived.Test.YtjmlkmlbhfkhbaaGreatDoorHp08
import Derived.Test.YtjmlkmlbhfkhbaaGreatDoorHp09
import Derived.BigQuiet
import Derived.Deep.RegionLaw
set_option linter.unusedSimpArgs false
set_option linter.unusedVariables false
namespace Go.Proofs.YtjmlkmlbhfkhbaaGreatDoor
open Go Go.RowKit

def kindAt (ns : List Nd) (k : Int) : Int := match ns[k.toNat]? with | some n => n.kind | none => 0
def ek (ns : List Nd) (i : Nat) : List Int := match ns[i]? with | some n => n.kids.filter (fun k => kindAt ns k == 3) | none => []

structure Keep (ns ns' : List Nd) : Prop where
  len : ns.length ≤ ns'.length
  nd : ∀ (i : Nat) (n : Nd), ns[i]? = some n → ∃ m, ns'[i]? = some m ∧ m.kind = n.kind ∧ m.name = n.name ∧ m.space = n.space
structure Quiet (ns ns' : List Nd) : Prop where
  keep : Keep ns ns'
  eks : ∀ i, i < ns.length → ek ns' i = ek ns i
structure Grown (ns ns' : List Nd) (p : Nat) (nm : Str) (sp : Int) : Prop where
  keep : Keep ns ns'
  at_ : ek ns' p = ek ns p ++ [(ns.length : Int)]
  eks : ∀ i, i < ns.length → i ≠ p → ek ns' i = ek ns i
  new : ∃ m, ns'[ns.length]? = some m ∧ m.kind = 3 ∧ m.name = nm ∧ m.space = sp
  none_ : ek ns' ns.length = []

def KidsIn (ns : List Nd) : Prop := ∀ (i : Nat) (n : Nd), ns[i]? = some n → ∀ k ∈ n.kids, 0 ≤ k ∧ k < (ns.length : Int)

theorem Keep.refl (ns : List Nd) : Keep ns ns := ⟨Nat.le_refl _, fun i n h => ⟨n, h, rfl, rfl, rfl⟩⟩
theorem Keep.trans {a b c : List Nd} (h : Keep a b) (k : Keep b c) : Keep a c :=
  ⟨Nat.le_trans h.len k.len, fun i n hn => by
    obtain ⟨m, h1, h2, h3, h4⟩ := h.nd i n hn
    obtain ⟨q, k1, k2, k3, k4⟩ := k.nd i m h1
    exact ⟨q, k1, k2.trans h2, k3.trans h3, k4.trans h4⟩⟩
theorem Quiet.refl (ns : List Nd) : Quiet ns ns := ⟨Keep.refl ns, fun _ _ => rfl⟩
theorem Quiet.trans {a b c : List Nd} (h : Quiet a b) (k : Quiet b c) : Quiet a c :=
  ⟨h.keep.trans k.keep, fun i hi => (k.eks i (Nat.lt_of_lt_of_le hi h.keep.len)).trans (h.eks i hi)⟩
theorem Keep.kindAt {a b : List Nd} (h : Keep a b) {k : Int} (h0 : 0 ≤ k) (hk : k < (a.length : Int)) : kindAt b k = kindAt a k := by
  obtain ⟨m, h1, h2, -⟩ := h.nd k.toNat a[k.toNat] (List.getElem?_eq_getElem (by omega))
  unfold Go.Proofs.YtjmlkmlbhfkhbaaGreatDoor.kindAt
  rw [h1, List.getElem?_eq_getElem (show k.toNat < a.length by omega)]
  exact h2

theorem ek_same {a b : List Nd} (h : Keep a b) (hin : KidsIn a) {i : Nat} {n m : Nd} (hn : a[i]? = some n) (hm : b[i]? = some m) (e : m.kids = n.kids) : ek b i = ek a i := by
  unfold ek
  rw [hn, hm]
  simp only [e]
  refine List.filter_congr fun k hk => ?_
  obtain ⟨h0, h1⟩ := hin i n hn k hk
  rw [h.kindAt h0 h1]
theorem ek_more {a b : List Nd} (h : Keep a b) (hin : KidsIn a) {i : Nat} {n m : Nd} (hn : a[i]? = some n) (hm : b[i]? = some m) {j : Int} (e : m.kids = n.kids ++ [j]) : ek b i = ek a i ++ (if kindAt b j == 3 then [j] else []) := by
  unfold ek
  rw [hn, hm]
  simp only [e, List.filter_append]
  congr 1
  · refine List.filter_congr fun k hk => ?_
    obtain ⟨h0, h1⟩ := hin i n hn k hk
    rw [h.kindAt h0 h1]
  · simp only [List.filter]
    split <;> simp_all

theorem hangN_at {ns : List Nd} {p i : Nat} {np ni : Nd} (hp : ns[p]? = some np) (hi : ns[i]? = some ni) (hpi : p ≠ i) : (hangN ns p i)[p]? = some { np with kids := np.kids ++ [(i : Int)] } := by
  have h1 := (List.getElem?_eq_some_iff.1 hp).1
  unfold hangN
  rw [hp, hi]
  simp only
  rw [List.getElem?_set_ne (Ne.symm hpi), List.getElem?_set_self h1]

theorem keep_put {ns : List Nd} {nd : Nd} {p : Nat} (hp : p < ns.length) : Keep ns (hangN (addN ns nd) p ns.length) := by
  refine ⟨by rw [hangN_len]; have := (addN_len ns nd).1; omega, fun i n hn => ?_⟩
  have hi := (List.getElem?_eq_some_iff.1 hn).1
  obtain ⟨m, hm⟩ := hangN_some (p := p) (i := ns.length) (show (addN ns nd)[i]? = some n by rw [addN_old hi]; exact hn)
  obtain ⟨n', h1, f1, f2, f3, f4, -⟩ := hangN_cases (by omega) hm
  rw [addN_old hi, hn] at h1
  obtain rfl := Option.some.inj h1
  exact ⟨m, hm, f1, f2, f4⟩

/-- Behind a put: the place, the others, the new one. -/
theorem put_parts {ns : List Nd} {nd : Nd} {p : Nat} (hin : KidsIn ns) (hp : p < ns.length) :
    (∃ m, (hangN (addN ns nd) p ns.length)[ns.length]? = some m ∧ m.kind = nd.kind ∧ m.name = nd.name ∧ m.space = nd.space ∧ m.kids = []) ∧
    (∀ i, i < ns.length → i ≠ p → ek (hangN (addN ns nd) p ns.length) i = ek ns i) ∧
    ek (hangN (addN ns nd) p ns.length) p = ek ns p ++ (if nd.kind == 3 then [(ns.length : Int)] else []) := by
  have K := keep_put (nd := nd) hp
  obtain ⟨k, n1⟩ := addN_new ns nd
  obtain ⟨np, hnp⟩ : ∃ np, ns[p]? = some np := ⟨_, List.getElem?_eq_getElem hp⟩
  have p1 : (addN ns nd)[p]? = some np := by rw [addN_old hp]; exact hnp
  have hat := hangN_at p1 n1 (by omega)
  have hnew : ∃ m, (hangN (addN ns nd) p ns.length)[ns.length]? = some m ∧ m.kind = nd.kind ∧ m.name = nd.name ∧ m.space = nd.space ∧ m.kids = [] := by
    obtain ⟨m, hm⟩ := hangN_some (p := p) (i := ns.length) n1
    obtain ⟨n', h1, f1, f2, f3, f4, f5, f6, f7, f8⟩ := hangN_cases (by omega) hm
    rw [n1] at h1
    obtain rfl := Option.some.inj h1
    refine ⟨m, hm, f1, f2, f4, ?_⟩
    rcases f8 with f8 | ⟨f8, -⟩
    · exact f8
    · omega
  refine ⟨hnew, fun i hi hip => ?_, ?_⟩
  · obtain ⟨n, hn⟩ : ∃ n, ns[i]? = some n := ⟨_, List.getElem?_eq_getElem hi⟩
    obtain ⟨m, hm⟩ := hangN_some (p := p) (i := ns.length) (show (addN ns nd)[i]? = some n by rw [addN_old hi]; exact hn)
    obtain ⟨n', h1, f1, f2, f3, f4, f5, f6, f7, f8⟩ := hangN_cases (by omega) hm
    rw [addN_old hi, hn] at h1
    obtain rfl := Option.some.inj h1
    rcases f8 with f8 | ⟨f8, -⟩
    · exact ek_same K hin hn hm f8
    · exact absurd f8 hip
  · have := ek_more K hin hnp hat (j := (ns.length : Int)) rfl
    rw [this]
    obtain ⟨m, hm, e1, -⟩ := hnew
    have : kindAt (hangN (addN ns nd) p ns.length) (ns.length : Int) = nd.kind := by
      unfold kindAt
      rw [Int.toNat_natCast, hm]
      exact e1
    rw [this]

theorem quiet_put {ns : List Nd} {nd : Nd} {p : Nat} (hin : KidsIn ns) (hp : p < ns.length) (hk : nd.kind ≠ 3) : Quiet ns (hangN (addN ns nd) p ns.length) := by
  obtain ⟨-, h2, h3⟩ := put_parts (nd := nd) hin hp
  refine ⟨keep_put hp, fun i hi => ?_⟩
  by_cases hip : i = p
  · subst hip
    rw [h3, if_neg (by simpa using hk), List.append_nil]
  · exact h2 i hi hip
theorem grown_put {ns : List Nd} {nd : Nd} {p : Nat} (hin : KidsIn ns) (hp : p < ns.length) (hk : nd.kind = 3) : Grown ns (hangN (addN ns nd) p ns.length) p nd.name nd.space := by
  obtain ⟨⟨m, h1, e1, e2, e3, e4⟩, h2, h3⟩ := put_parts (nd := nd) hin hp
  refine ⟨keep_put hp, ?_, h2, ⟨m, h1, e1.trans hk, e2, e3⟩, ?_⟩
  · rw [h3, if_pos (by simpa using hk)]
  · unfold ek
    rw [h1]
    simp [e4]
theorem quiet_set {ns : List Nd} {j : Nat} {n m : Nd} (hin : KidsIn ns) (hn : ns[j]? = some n) (e1 : m.kind = n.kind) (e2 : m.name = n.name) (e3 : m.space = n.space) (e4 : m.kids = n.kids) : Quiet ns (ns.set j m) := by
  have hj := (List.getElem?_eq_some_iff.1 hn).1
  have K : Keep ns (ns.set j m) := by
    refine ⟨by simp, fun i q hq => ?_⟩
    by_cases hij : j = i
    · subst hij
      rw [hn] at hq
      obtain rfl := Option.some.inj hq
      exact ⟨m, List.getElem?_set_self hj, e1, e2, e3⟩
    · exact ⟨q, by rw [List.getElem?_set_ne hij]; exact hq, rfl, rfl, rfl⟩
  refine ⟨K, fun i hi => ?_⟩
  by_cases hij : j = i
  · subst hij
    exact ek_same K hin hn (List.getElem?_set_self hj) e4
  · obtain ⟨q, hq⟩ : ∃ q, ns[i]? = some q := ⟨_, List.getElem?_eq_getElem hi⟩
    exact ek_same K hin hq (by rw [List.getElem?_set_ne hij]; exact hq) rfl
end Go.Proofs.YtjmlkmlbhfkhbaaGreatDoor
namespace Go.Proofs.YtjmlkmlbhfkhbaaGreatDoor
open Go Go.RowKit

def txtNd (s : Str) : Nd := { kind := 4, name := ⟨#[]⟩, text := s, space := 0, attrs := [], dup := false, parent := 0, content := 0, kids := [], frm := -1, to_ := -1 }
def txtC (s : Str) : NdC := { nd := txtNd s, aA := none, acap := 0, kA := none, kcap := 0 }
/-- The nodes where a text has come behind p's kids. -/
def textN (ns : List Nd) (p : Nat) (s : Str) : List Nd :=
  if eqS s ⟨#[]⟩ then ns else
  match ns[p]? with
  | none => ns
  | some np => match np.kids[np.kids.length - 1]? with
    | none => hangN (addN ns (txtNd s)) p ns.length
    | some k => match ns[k.toNat]? with
      | none => ns
      | some nl => if nl.kind = 4 then ns.set k.toNat { nl with text := nl.text ++ s } else hangN (addN ns (txtNd s)) p ns.length

theorem wrap_small {L : Nat} (h : L ≤ 1000000000) : IntKind.i64.wrap (L : Int) = (L : Int) := by unfold IntKind.wrap; simp [IntKind.bits, IntKind.signed]; omega

set_option maxRecDepth 100000 in
set_option maxHeartbeats 4000000 in
theorem aText {w : World} {c : Col} {h : Hd} {st : St} (H : BRep w c h st) {N : Nat} (wf : Wf N st) (hN : N ≤ 10000000) {p : Nat} {np : Nd} (hp : st.ns[p]? = some np)
    (hkp : np.kind = 1 ∨ np.kind = 3 ∨ np.kind = 6) (s : Str) (hs : s.size ≤ 1000) :
    Calls Tryz.prog 67 #[.pointer (some ⟨h.a, 0, none⟩), .int .i64 p, .int .i64 (-1), .string s] w (OkB h { st with ns := textN st.ns p s } (.int .i64 0) w c) := by
  have HH := Lib.hid H
  obtain ⟨X, H⟩ := H
  have hlen : X.cs.length = st.ns.length := by rw [← H.ns]; simp
  have AVw := H.av (by have := wf.sz.1; omega)
  obtain ⟨yp, hyp, rfl⟩ := H.nodeOf hp
  have NO := Lib.hid (aNone AVw (by have := wf.sz.2.1; omega))
  have HO := Lib.hid (aHolds AVw hyp hkp)
  have a0 := AVw.1
  obtain ⟨-, -, -, -, -, -, -, -, p8, -⟩ := AVw.node hyp
  have hpl : p < X.cs.length := (List.getElem?_eq_some_iff.1 hyp).1
  have hp0 : (0 : Int) ≤ (p : Int) := by omega
  have hp1 : (p : Int) < X.cs.length := by omega
  have RK := Lib.hid (H.nodes.each p yp hyp).1
  have hkl : yp.nd.kids.length ≤ N := (wf.sz.2.2 p yp.nd hp).2.1
  by_cases he : eqS s ⟨#[]⟩ = true
  · have he' : (s.toList == []) = true := by rw [← toList_mk []]; exact he
    have FIN : Hid (textN st.ns p s = st.ns) := Lib.hid (by unfold textN; rw [he]; rfl)
    clear he p8 wf hp
    go_enter Tryz.func67, Tryz.ntmps67
    go_wp2_with (first
      | (go_at_call 111; refine NO.out.mono ?_; rintro e w1 ⟨rfl, rfl⟩)
      | (go_at_call 116; refine HO.out.mono ?_; rintro e w1 ⟨rfl, rfl⟩))
    go_ret
    exact ⟨rfl, c, by rw [FIN.out]; exact HH.out, Mv.refl _ _ _⟩
  · have he0 : eqS s ⟨#[]⟩ = false := by simpa using he
    have he' : (s.toList == []) = false := by rw [← toList_mk []]; exact he0
    -- the node that is added
    have ADD : Hid (textN st.ns p s = hangN (addN st.ns (txtNd s)) p st.ns.length → ∀ W, Below w.heap.size w W → Calls Tryz.prog 68 #[.pointer (some ⟨h.a, 0, none⟩), (txtC s).val] W fun e w' => e = .returned (.int .i64 st.ns.length) ∧
        Calls Tryz.prog 115 #[.pointer (some ⟨h.a, 0, none⟩), .int .i64 p, .int .i64 (-1), .int .i64 st.ns.length] w' fun e w2 => OkB h { st with ns := textN st.ns p s } (.tuple #[]) w c e w2) := Lib.hid fun hq W hW => by
      refine (aAdd (HH.out.loc hW) (txtC s) (.inr (.inr (.inl rfl))) (by have := wf.sz.1; omega) (by simp [txtC, txtNd]) ⟨fun _ => rfl, fun _ e => by cases e⟩ wf.sz.2.1).mono ?_
      rintro e w1 ⟨rfl, c1, H1, m1⟩
      refine ⟨rfl, ?_⟩
      have W1 : Wf (N + 1002) { st with ns := addN st.ns (txtNd s) } := wf.add (by omega) (by simp [txtNd]) (by simp [txtNd]; omega)
      obtain ⟨k, n1⟩ := addN_new st.ns (txtNd s)
      have p1 : (addN st.ns (txtNd s))[p]? = some yp.nd := by rw [addN_old (by omega)]; exact hp
      refine (aHang H1 p1 n1 rfl (by omega) (show (addN st.ns (txtNd s)).length ≤ 1000000000 by have : (addN st.ns (txtNd s)).length ≤ N + 1002 := W1.sz.1; omega) (by omega)).mono ?_
      rintro e w2 ⟨rfl, c2, H2, m2⟩
      exact ⟨rfl, c2, by rw [hq]; exact H2, (Mv.of_below hW).trans (m1.trans m2)⟩
    have KID := Lib.hid (fun k hk => wf.kid p yp.nd hp k hk)
    have TS := Lib.hid wf.sz.2.2
    have XH := Lib.hid H
    by_cases h0 : yp.nd.kids.length = 0
    · have hq : textN st.ns p s = hangN (addN st.ns (txtNd s)) p st.ns.length := by
        unfold textN
        have : yp.nd.kids[yp.nd.kids.length - 1]? = none := List.getElem?_eq_none (by omega)
        simp only [he0, hp, this]
        rfl
      have AD := Lib.hid (fun m => ADD.out hq (w.drewN m) ⟨rfl, rfl, rfl, Nat.le_refl _, fun _ _ => rfl⟩)
      rw [h0] at p8
      have eC : (txtC s).val = .agg #[.int .i64 4, .string ⟨#[]⟩, .string s, .int .i64 0, .slice none 0 0, .bool false, .int .i64 0, .int .i64 0, .slice none 0 0, .int .i64 (-1), .int .i64 (-1)] := rfl
      rw [eC] at AD
      clear he he0 wf hp hq eC
      go_enter Tryz.func67, Tryz.ntmps67
      go_wp2_with (first
        | (go_at_call 111; refine NO.out.mono ?_; rintro e w1 ⟨rfl, rfl⟩)
        | (go_at_call 116; refine HO.out.mono ?_; rintro e w1 ⟨rfl, rfl⟩))
      go_quiet (fail)
      go_wp2_with fail
      refine (AD.out _).mono ?_
      rintro e w1 ⟨rfl, C2⟩
      go_wp2_with fail
      refine C2.mono ?_
      rintro e w2 ⟨rfl, c2, H2, m2⟩
      go_wp2_with fail
      go_ret
      exact ⟨rfl, c2, H2, m2⟩
    · obtain ⟨k, hk⟩ : ∃ k, yp.nd.kids[yp.nd.kids.length - 1]? = some k := ⟨_, List.getElem?_eq_getElem (by omega)⟩
      obtain ⟨hk0, hk1⟩ := KID.out k (List.mem_of_getElem? hk)
      obtain ⟨j, rfl⟩ : ∃ j : Nat, k = (j : Int) := ⟨k.toNat, by omega⟩
      obtain ⟨nl, hnl⟩ : ∃ nl, st.ns[j]? = some nl := ⟨_, List.getElem?_eq_getElem (by omega)⟩
      obtain ⟨yl, hyl, rfl⟩ := H.nodeOf hnl
      have hjl : j < X.cs.length := (List.getElem?_eq_some_iff.1 hyl).1
      obtain ⟨g, eA, hcg, hgl, hc, -⟩ := RK.out.at_ (by omega)
      have c1 := hc (yp.nd.kids.length - 1) (.int .i64 (j : Int)) (by simp [intCells, hk])
      rw [eA] at p8
      obtain ⟨l0, -, l2, -⟩ := AVw.node hyl
      obtain ⟨fz, hgnl⟩ := H.fz (by omega)
      have f2 := fz (j * 11 + 2)
      obtain ⟨L, hL⟩ : ∃ L, yp.nd.kids.length = L + 1 := ⟨yp.nd.kids.length - 1, by omega⟩
      rw [hL] at p8
      have c1' : w.cell? ⟨g, L, none⟩ = some (.int .i64 (j : Int)) := by
        rw [hL] at c1
        exact c1
      have i0 : (0 : Int) ≤ (L : Int) := by omega
      have i1 : (L : Int) < (L : Int) + 1 := by omega
      clear c1
      have j0 : (0 : Int) ≤ (j : Int) := by omega
      have j1 : (j : Int) < (X.cs.length : Int) := by omega
      have tsz : yl.nd.text.size ≤ N := (TS.out j yl.nd hnl).2.2
      have HAL := H.ha.lt
      by_cases h4 : yl.nd.kind = 4
      · have hq : textN st.ns p s = st.ns.set j { yl.nd with text := yl.nd.text ++ s } := by
          unfold textN
          rw [he0, hp]
          simp only [hk, Int.toNat_natCast, hnl, if_pos h4]
          rfl
        have FIN : Hid (∀ m : Nat, OkB h { st with ns := textN st.ns p s } (.int .i64 0) w c (.returned (.int .i64 0)) ((w.drewN m).setCell ⟨X.gn, j * 11 + 2, none⟩ (.string (yl.nd.text ++ s)))) := Lib.hid fun m => by
          have hb : Below w.heap.size w (w.drewN m) := ⟨rfl, rfl, rfl, Nat.le_refl _, fun _ _ => rfl⟩
          have H2 : BRepX (w.drewN m) c h X st := H.kp (fun p i => (Mv.of_below (S := fun _ => False) hb).kp id) ((Mv.of_below (S := fun _ => False) hb).gd H.gd)
          obtain ⟨H3, m3⟩ := setNode (y' := { yl with nd := { yl.nd with text := yl.nd.text ++ s } }) (v := .string (yl.nd.text ++ s)) H2 hyl (j := 2) (by omega) rfl ⟨rfl, rfl, rfl⟩ ⟨rfl, rfl, rfl⟩
          exact ⟨rfl, c, ⟨_, by rw [hq]; exact H3⟩, (Mv.of_below hb).trans m3⟩
        rw [h4] at l0
        clear he he0 wf hp hq hk hnl hyl hyp eA hc fz h4
        go_enter Tryz.func67, Tryz.ntmps67
        go_wp2_with (first
          | (go_at_call 111; refine NO.out.mono ?_; rintro e w1 ⟨rfl, rfl⟩)
          | (go_at_call 116; refine HO.out.mono ?_; rintro e w1 ⟨rfl, rfl⟩))
        go_quiet (fail)
        have hwr : IntKind.i64.wrap (L : Int) = (L : Int) := wrap_small (by omega)
        have hmx2 : ¬ (9223372036854775807 < yl.nd.text.size + s.size) := by omega
        have hmx : yl.nd.text.size + s.size ≤ maxLen := by unfold maxLen; omega
        go_wp2_with fail
        go_region_law (fail)
        all_goals
          go_wp2_with fail
          go_ret
          first
            | exact FIN.out _
            | exact FIN.out (_ + 1)
      · have hq : textN st.ns p s = hangN (addN st.ns (txtNd s)) p st.ns.length := by
          unfold textN
          rw [he0, hp]
          simp only [hk, Int.toNat_natCast, hnl, if_neg h4]
          rfl
        have h4' : (yl.nd.kind == 4) = false := by simp [h4]
        have AD := Lib.hid (fun m => ADD.out hq (w.drewN m) ⟨rfl, rfl, rfl, Nat.le_refl _, fun _ _ => rfl⟩)
        have eC : (txtC s).val = .agg #[.int .i64 4, .string ⟨#[]⟩, .string s, .int .i64 0, .slice none 0 0, .bool false, .int .i64 0, .int .i64 0, .slice none 0 0, .int .i64 (-1), .int .i64 (-1)] := rfl
        rw [eC] at AD
        clear he he0 wf hp hq hk hnl hyl hyp eA hc fz eC h4
        go_enter Tryz.func67, Tryz.ntmps67
        go_wp2_with (first
          | (go_at_call 111; refine NO.out.mono ?_; rintro e w1 ⟨rfl, rfl⟩)
          | (go_at_call 116; refine HO.out.mono ?_; rintro e w1 ⟨rfl, rfl⟩))
        go_quiet (fail)
        go_wp2_with fail
        refine (AD.out _).mono ?_
        rintro e w1 ⟨rfl, C2⟩
        go_wp2_with fail
        refine C2.mono ?_
        rintro e w2 ⟨rfl, c2, H2, m2⟩
        go_wp2_with fail
        go_ret
        exact ⟨rfl, c2, H2, m2⟩
end Go.Proofs.YtjmlkmlbhfkhbaaGreatDoor
namespace Go.Proofs.YtjmlkmlbhfkhbaaGreatDoor
open Go Go.RowKit

abbrev mHtml : Str := ⟨#[104, 116, 109, 108]⟩
abbrev mHead : Str := ⟨#[104, 101, 97, 100]⟩
abbrev mBody : Str := ⟨#[98, 111, 100, 121]⟩

def IsEl (ns : List Nd) (a : Nat) (nm : Str) : Prop := ∃ n, ns[a]? = some n ∧ n.kind = 3 ∧ n.name = nm ∧ n.space = 0
theorem IsEl.keep {ns ns' : List Nd} {a : Nat} {nm : Str} (h : IsEl ns a nm) (k : Keep ns ns') : IsEl ns' a nm := by
  obtain ⟨n, h1, h2, h3, h4⟩ := h
  obtain ⟨m, k1, k2, k3, k4⟩ := k.nd a n h1
  exact ⟨m, k1, k2.trans h2, k3.trans h3, k4.trans h4⟩
theorem IsEl.lt {ns : List Nd} {a : Nat} {nm : Str} (h : IsEl ns a nm) : a < ns.length := by
  obtain ⟨n, h1, -⟩ := h
  exact (List.getElem?_eq_some_iff.1 h1).1

/-- The document's one element kid is html, and its element kids are l. -/
structure Trunk (ns : List Nd) (a : Nat) (l : List Int) : Prop where
  doc : ek ns 0 = [(a : Int)]
  html : IsEl ns a mHtml
  kids : ek ns a = l
  pos : 0 < a
theorem Trunk.quiet {ns ns' : List Nd} {a : Nat} {l : List Int} (h : Trunk ns a l) (k : Quiet ns ns') : Trunk ns' a l :=
  ⟨(k.eks 0 (by have := h.html.lt; have := h.pos; omega)).trans h.doc, h.html.keep k.keep, (k.eks a h.html.lt).trans h.kids, h.pos⟩
/-- An element comes elsewhere. -/
theorem Trunk.grown {ns ns' : List Nd} {a p : Nat} {l : List Int} {nm : Str} {sp : Int} (h : Trunk ns a l) (k : Grown ns ns' p nm sp) (h0 : p ≠ 0) (ha : p ≠ a) : Trunk ns' a l :=
  ⟨(k.eks 0 (by have := h.html.lt; have := h.pos; omega) (Ne.symm h0)).trans h.doc, h.html.keep k.keep, (k.eks a h.html.lt (Ne.symm ha)).trans h.kids, h.pos⟩
/-- An element comes into html. -/
theorem Trunk.into {ns ns' : List Nd} {a : Nat} {l : List Int} {nm : Str} {sp : Int} (h : Trunk ns a l) (k : Grown ns ns' a nm sp) : Trunk ns' a (l ++ [(ns.length : Int)]) :=
  ⟨(k.eks 0 (by have := h.html.lt; have := h.pos; omega) (by have := h.pos; omega)).trans h.doc, h.html.keep k.keep, by rw [k.at_, h.kids], h.pos⟩

/-- An open element that is none of the trunk's and no template. -/
structure Loose (ns : List Nd) (a : Nat) (o : OpE) : Prop where
  node : ∃ i : Nat, o.node = (i : Int) ∧ i ≠ a ∧ 0 < i
  nm : eqS o.name nTemplate = false

/-- The stack of the modes in head, in head noscript, after head. -/
def Rest (ns : List Nd) (m : Int) (a b : Nat) (l : List OpE) : Prop :=
  (m = 3 ∧ l = [⟨(a : Int), 0, mHtml⟩, ⟨(b : Int), 0, mHead⟩]) ∨
  (m = 4 ∧ ∃ x, Loose ns a x ∧ l = [⟨(a : Int), 0, mHtml⟩, ⟨(b : Int), 0, mHead⟩, x]) ∨
  (m = 5 ∧ l = [⟨(a : Int), 0, mHtml⟩])

/-- The shape of a state. -/
inductive Shp (st : St) : Prop where
  | start (hm : st.mode = 0 ∨ st.mode = 1) (hs : st.stk = []) (he : ek st.ns 0 = [])
  | html (a : Nat) (hm : st.mode = 2) (hs : st.stk = [⟨(a : Int), 0, mHtml⟩]) (ht : Trunk st.ns a [])
  | head (a b : Nat) (hr : Rest st.ns st.mode a b st.stk) (ht : Trunk st.ns a [(b : Int)]) (hb : IsEl st.ns b mHead) (hab : a ≠ b) (hh : st.head = (b : Int))
  | raw (a b : Nat) (l : List OpE) (r : OpE) (hm : st.mode = 7) (hr : Rest st.ns st.back a b l) (hs : st.stk = l ++ [r]) (hl : Loose st.ns a r) (ht : Trunk st.ns a [(b : Int)]) (hb : IsEl st.ns b mHead) (hab : a ≠ b) (hh : st.head = (b : Int))
  | body (a b d : Nat) (hm : st.mode = 6) (hs : st.stk = [⟨(a : Int), 0, mHtml⟩, ⟨(d : Int), 0, mBody⟩]) (ht : Trunk st.ns a [(b : Int), (d : Int)]) (hb : IsEl st.ns b mHead) (hd : IsEl st.ns d mBody)
  | tmpl (hm : st.mode = 15)

theorem textN_quiet {N : Nat} {st : St} (wf : Wf N st) {p : Nat} (hp : p < st.ns.length) (s : Str) : Quiet st.ns (textN st.ns p s) := by
  unfold textN
  split
  · exact Quiet.refl _
  · split
    · exact Quiet.refl _
    · rename_i np hnp
      split
      · exact quiet_put wf.kid hp (by simp [txtNd])
      · rename_i k hk
        split
        · exact Quiet.refl _
        · rename_i nl hnl
          split
          · exact quiet_set wf.kid hnl rfl rfl rfl rfl
          · exact quiet_put wf.kid hp (by simp [txtNd])
end Go.Proofs.YtjmlkmlbhfkhbaaGreatDoor
namespace Go.Proofs.YtjmlkmlbhfkhbaaGreatDoor
open Go Go.RowKit

theorem pl_top {N : Nat} {st : St} (wf : Wf N st) {l : List OpE} {o : OpE} (hs : st.stk = l ++ [o]) (hnt : eqS o.name nTemplate = false) {i : Nat} (ho : o.node = (i : Int)) :
    tgtIx st = i ∧ plIx st.ns i = i ∧ i < st.ns.length := by
  have hk : st.stk[st.stk.length - 1]? = some o := by rw [hs]; simp
  obtain ⟨j, n, e1, e2, e3, e4, e5⟩ := wf.op _ o hk
  obtain rfl : i = j := by rw [ho] at e1; omega
  refine ⟨?_, ?_, (List.getElem?_eq_some_iff.1 e2).1⟩
  · unfold tgtIx topD
    rw [topOf_some hk, ho, if_neg (by omega)]
    omega
  · unfold plIx
    rw [e2]
    simp only
    have : htmlN n [nTemplate] = false := by
      unfold htmlN inS
      rw [e5]
      simp [hnt]
    unfold placeOf
    rw [this]
    simp
theorem pl_nil {N : Nat} {st : St} (wf : Wf N st) (hs : st.stk = []) : tgtIx st = 0 ∧ plIx st.ns 0 = 0 ∧ 0 < st.ns.length := by
  have hl : 0 < st.ns.length := by have := wf.sz.2.1; omega
  refine ⟨?_, ?_, hl⟩
  · unfold tgtIx topD
    rw [hs, topOf_nil]
    rfl
  · unfold plIx
    rw [List.getElem?_eq_getElem hl]
    simp only
    have hk := wf.doc _ (List.getElem?_eq_getElem hl)
    have : htmlN st.ns[0] [nTemplate] = false := by
      unfold htmlN
      rw [hk]
      rfl
    unfold placeOf
    rw [this]
    simp
theorem topOf_append {l : List OpE} {o : OpE} : topOf (l ++ [o]) = o.node := topOf_some (by simp)
end Go.Proofs.YtjmlkmlbhfkhbaaGreatDoor
namespace Go.Proofs.YtjmlkmlbhfkhbaaGreatDoor
open Go Go.RowKit

theorem Rest.keep {ns ns' : List Nd} {m : Int} {a b : Nat} {l : List OpE} (h : Rest ns m a b l) : Rest ns' m a b l := by
  rcases h with h | ⟨h, x, h1, h2⟩ | h
  · exact .inl h
  · exact .inr (.inl ⟨h, x, ⟨h1.node, h1.nm⟩, h2⟩)
  · exact .inr (.inr h)
theorem Shp.quiet {st : St} (h : Shp st) (h0 : 0 < st.ns.length) {ns' : List Nd} (k : Quiet st.ns ns') : Shp { st with ns := ns' } := by
  cases h with
  | start hm hs he => exact .start hm hs ((k.eks 0 h0).trans he)
  | html a hm hs ht => exact .html a hm hs (ht.quiet k)
  | head a b hr ht hb hab hh => exact .head a b hr.keep (ht.quiet k) (hb.keep k.keep) hab hh
  | raw a b l r hm hr hs hl ht hb hab hh => exact .raw a b l r hm hr.keep hs ⟨hl.node, hl.nm⟩ (ht.quiet k) (hb.keep k.keep) hab hh
  | body a b d hm hs ht hb hd => exact .body a b d hm hs (ht.quiet k) (hb.keep k.keep) (hd.keep k.keep)
  | tmpl hm => exact .tmpl hm

/-- Only how the page is read has changed. -/
theorem Shp.plain {st st' : St} (h : Shp st) (e1 : st'.ns = st.ns) (e2 : st'.stk = st.stk) (e3 : st'.mode = st.mode) (e4 : st'.back = st.back) (e5 : st'.head = st.head) : Shp st' := by
  cases h with
  | start hm hs he => exact .start (by rw [e3]; exact hm) (by rw [e2]; exact hs) (by rw [e1]; exact he)
  | html a hm hs ht => exact .html a (by rw [e3]; exact hm) (by rw [e2]; exact hs) (by rw [e1]; exact ht)
  | head a b hr ht hb hab hh => exact .head a b (by rw [e1, e2, e3]; exact hr) (by rw [e1]; exact ht) (by rw [e1]; exact hb) hab (by rw [e5]; exact hh)
  | raw a b l r hm hr hs hl ht hb hab hh => exact .raw a b l r (by rw [e3]; exact hm) (by rw [e1, e4]; exact hr) (by rw [e2]; exact hs) ⟨hl.node, hl.nm⟩ (by rw [e1]; exact ht) (by rw [e1]; exact hb) hab (by rw [e5]; exact hh)
  | body a b d hm hs ht hb hd => exact .body a b d (by rw [e3]; exact hm) (by rw [e2]; exact hs) (by rw [e1]; exact ht) (by rw [e1]; exact hb) (by rw [e1]; exact hd)
  | tmpl hm => exact .tmpl (by rw [e3]; exact hm)
end Go.Proofs.YtjmlkmlbhfkhbaaGreatDoor
