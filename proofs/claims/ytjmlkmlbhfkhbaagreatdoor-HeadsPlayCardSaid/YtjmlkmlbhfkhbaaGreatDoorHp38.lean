/-
  Same's region 7: its last ten operations.
  The law's Same (57): what is asked of both sides, and what it leaves.
-/
import Derived.Test.YtjmlkmlbhfkhbaaGreatDoorHp37
import Derived.Test.YtjmlkmlbhfkhbaaGreatDoorHp26
import Derived.Deep.RegionHeld3
set_option linter.unusedSimpArgs false
set_option linter.unusedVariables false
namespace Go.Proofs.YtjmlkmlbhfkhbaaGreatDoor
open Go Go.RowKit

def t112 : Oper := { dst := some 146, op := .move (.tmp 0), type := 27, pos := "law.go:207", after := #[{ on := 111, ground := .guard }], guard := some (111, false) }
def t113 : Oper := { dst := some 147, op := .call { callee := .value (.func 30), args := #[.tmp 146], argTypes := #[27] }, type := 28, pos := "law.go:207", after := #[{ on := 112, ground := .data }, { on := 111, ground := .chain }, { on := 111, ground := .guard }], guard := some (111, false) }
def t114 : Oper := { dst := some 148, op := .call { callee := .value (.func 53), args := #[.tmp 147], argTypes := #[28] }, type := 71, pos := "law.go:207", after := #[{ on := 113, ground := .data }, { on := 113, ground := .chain }, { on := 111, ground := .guard }], guard := some (111, false) }
def t115 : Oper := { dst := some 149, op := .move (.tmp 1), type := 75, pos := "law.go:207", after := #[{ on := 111, ground := .guard }], guard := some (111, false) }
def t116 : Oper := { dst := some 150, op := .nilCheck (.tmp 149), type := 0, pos := "law.go:207", after := #[{ on := 115, ground := .data }, { on := 111, ground := .guard }], guard := some (111, false) }
def t117 : Oper := { dst := some 151, op := .fieldAddr 79 (.tmp 150) 0, type := 0, pos := "law.go:207", after := #[{ on := 116, ground := .data }, { on := 111, ground := .guard }], guard := some (111, false) }
def t118 : Oper := { dst := some 152, op := .load 71 (.tmp 151), type := 71, pos := "law.go:207", after := #[{ on := 117, ground := .data }, { on := 111, ground := .guard }], guard := some (111, false) }
def t119 : Oper := { dst := some 153, op := .call { callee := .value (.func 101), args := #[.tmp 148, .tmp 152], argTypes := #[71, 71] }, type := 4, pos := "law.go:207", after := #[{ on := 114, ground := .data }, { on := 118, ground := .data }, { on := 114, ground := .chain }, { on := 111, ground := .guard }], guard := some (111, false) }
def t120 : Oper := { dst := some 154, op := .unOp .not 4 (.tmp 153), type := 4, pos := "law.go:207", after := #[{ on := 119, ground := .data }, { on := 111, ground := .guard }], guard := some (111, false) }
def t121 : Oper := { dst := some 155, op := .pick (.tmp 145) (.const (.bool true)) (.tmp 154), type := 4, pos := "law.go:207", after := #[{ on := 111, ground := .data }, { on := 120, ground := .data }], guard := none }
theorem o7 : (((Tryz.f57.body.bind (regionOps 7)).getD #[])[112]?, ((Tryz.f57.body.bind (regionOps 7)).getD #[])[113]?, ((Tryz.f57.body.bind (regionOps 7)).getD #[])[114]?, ((Tryz.f57.body.bind (regionOps 7)).getD #[])[115]?, ((Tryz.f57.body.bind (regionOps 7)).getD #[])[116]?) = (some t112, some t113, some t114, some t115, some t116) := by kernel_rfl
theorem o7' : (((Tryz.f57.body.bind (regionOps 7)).getD #[])[117]?, ((Tryz.f57.body.bind (regionOps 7)).getD #[])[118]?, ((Tryz.f57.body.bind (regionOps 7)).getD #[])[119]?, ((Tryz.f57.body.bind (regionOps 7)).getD #[])[120]?, ((Tryz.f57.body.bind (regionOps 7)).getD #[])[121]?) = (some t117, some t118, some t119, some t120, some t121) := by kernel_rfl
theorem dst111 : (((Tryz.f57.body.bind (regionOps 7)).getD #[])[111]?).bind (·.dst) = some 145 := by kernel_rfl
theorem sel7 : Region.noSelect ((Tryz.f57.body.bind (regionOps 7)).getD #[]) = true := by kernel_rfl

theorem eval_put {a : Act} {d e : Nat} {v : Value} : (a.put (some d) v).eval (.tmp e) = if d = e ∧ e < a.tmps.size then v else a.eval (.tmp e) := by
  unfold Act.put Act.eval
  simp only [Array.getD_eq_getD_getElem?, Array.getElem?_setIfInBounds]
  by_cases h : d = e
  · subst h
    by_cases h2 : d < a.tmps.size
    · simp [h2]
    · simp [h2]
  · simp [h]

theorem put_size (a : Act) (d : Nat) (v : Value) : (a.put (some d) v).tmps.size = a.tmps.size := by simp [Act.put]

theorem want7 {ops : Array Oper} (ho : ((Tryz.f57.body.bind (regionOps 7)).getD #[]) = ops) {a : Act} (hz : a.eval (.tmp 145) = .bool false) (hs : a.tmps.size = 240) {t : Oper} (hg : t.guard = some (111, false)) : Region.wanted t (yielded ops a.tmps) = true := by
  have h : yielded ops a.tmps 111 = some false := by
    have hv : a.tmps[145]? = some (.bool false) := by
      unfold Act.eval at hz
      simp only [Array.getD_eq_getD_getElem?] at hz
      rw [Array.getElem?_eq_getElem (by omega)] at hz ⊢
      simpa using hz
    unfold yielded
    rw [← ho, dst111]
    simp only [Option.bind_some, hv]
  unfold Region.wanted
  rw [hg]
  simp [h]

theorem r116 (ρ : Operand → Value) (w : World) (q : Nat) (h : ρ (.tmp 149) = .pointer (some ⟨q, 0, none⟩)) : (execOp ρ t116).run Tryz.prog w = .ok (.value (.pointer (some ⟨q, 0, none⟩))) w := by
  unfold t116
  simp [go_sem, h]
theorem r117 (ρ : Operand → Value) (w : World) (q : Nat) (h : ρ (.tmp 150) = .pointer (some ⟨q, 0, none⟩)) : (execOp ρ t117).run Tryz.prog w = .ok (.value (.pointer (some ⟨q, 0, none⟩))) w := by
  unfold t117
  simp [go_sem, h]
theorem r118 (ρ : Operand → Value) (w : World) (q : Nat) (A : Option Addr) (n c : Nat) (h : ρ (.tmp 151) = .pointer (some ⟨q, 0, none⟩)) (hc : w.cell? ⟨q, 0, none⟩ = some (.slice A n c)) : (execOp ρ t118).run Tryz.prog w = .ok (.value (.slice A n c)) w := by
  unfold t118
  simp [go_sem, h, hc]
theorem r120 (ρ : Operand → Value) (w : World) (h : ρ (.tmp 153) = .bool true) : (execOp ρ t120).run Tryz.prog w = .ok (.value (.bool false)) w := by
  unfold t120
  simp [go_sem, h]
theorem r121 (ρ : Operand → Value) (w : World) (h : ρ (.tmp 145) = .bool false) (h2 : ρ (.tmp 154) = .bool false) : (execOp ρ t121).run Tryz.prog w = .ok (.value (.bool false)) w := by
  unfold t121
  simp [go_sem, h, h2]
theorem r113 (ρ : Operand → Value) (w : World) (v : Value) (hf : ρ (.func 30) = .func (.func 30) #[] #[]) (h : ρ (.tmp 146) = v) : (execOp ρ t113).run Tryz.prog w = .ok (.enter 30 #[v]) w := by
  unfold t113
  simp [go_sem, hf, h]
theorem r114 (ρ : Operand → Value) (w : World) (v : Value) (hf : ρ (.func 53) = .func (.func 53) #[] #[]) (h : ρ (.tmp 147) = v) : (execOp ρ t114).run Tryz.prog w = .ok (.enter 53 #[v]) w := by
  unfold t114
  simp [go_sem, hf, h]
theorem r119 (ρ : Operand → Value) (w : World) (v u : Value) (hf : ρ (.func 101) = .func (.func 101) #[] #[]) (h : ρ (.tmp 148) = v) (h2 : ρ (.tmp 152) = u) : (execOp ρ t119).run Tryz.prog w = .ok (.enter 101 #[v, u]) w := by
  unfold t119
  simp [go_sem, hf, h, h2]
/-- A call, carried out. -/
theorem wp_enter {o : Oper} {a : Act} {w : World} {K : Act → World → Prop} {Q : Exit → Act → World → Prop} {f : FuncId} {args : Array Value} (h : (execOp a.eval o).run Tryz.prog w = .ok (.enter f args) w)
    (hc : Calls Tryz.prog f args w fun e w' => ∃ v, e = .returned v ∧ K (a.put o.dst v) w') : o.wp Tryz.prog a w K Q := by
  unfold Oper.wp
  rw [h]
  simp only [Oper.upon]
  refine hc.mono ?_
  rintro e w' ⟨v, rfl, hk⟩
  exact hk

theorem wpAny_cast {ops : Array Oper} {Q : Exit → Act → World → Prop} {a : Act} {w : World} {n k : Nat} (h : n = 10) (h2 : k = 122) (H : wpAny Tryz.prog .any ops Q 10 (firstK 122 112) a w) : wpAny Tryz.prog .any ops Q n (firstK k (111 + 1)) a w := by
  rw [h, h2]; exact H

/-- The act behind the tail. -/
def tailAct (a : Act) (p q : Nat) (r : Nat) (s1 s2 : Value) : Act :=
  (((((((((a.put (some 146) (.pointer (some ⟨p, 0, none⟩))).put (some 149) (.pointer (some ⟨q, 0, none⟩))).put (some 150) (.pointer (some ⟨q, 0, none⟩))).put (some 151) (.pointer (some ⟨q, 0, none⟩))).put (some 152) s2).put (some 147) (.pointer (some ⟨r, 0, none⟩))).put (some 148) s1).put (some 153) (.bool true)).put (some 154) (.bool false)).put (some 155) (.bool false)

set_option maxRecDepth 100000 in
set_option maxHeartbeats 4000000 in
theorem tail7 {ops : Array Oper} (ho : ((Tryz.f57.body.bind (regionOps 7)).getD #[]) = ops) {a : Act} {w : World} {Q : Exit → Act → World → Prop} {p q r : Nat} {A2 : Option Addr} {n2 c2 : Nat} (hs : a.tmps.size = 240) (h0 : a.eval (.tmp 0) = .pointer (some ⟨p, 0, none⟩)) (h1 : a.eval (.tmp 1) = .pointer (some ⟨q, 0, none⟩)) (hz : a.eval (.tmp 145) = .bool false)
    (hc : w.cell? ⟨q, 0, none⟩ = some (.slice A2 n2 c2)) (hQp : ∀ (c : List PanicEntry) (a : Act) (d : Option Tmp) (v : Value) (w : World), Q (.panic c) (a.put d v) w → Q (.panic c) a w)
    (A30 : Calls Tryz.prog 30 #[.pointer (some ⟨p, 0, none⟩)] w fun e w' => e = .returned (.pointer (some ⟨r, 0, none⟩)) ∧ w' = w)
    (A53 : Calls Tryz.prog 53 #[.pointer (some ⟨r, 0, none⟩)] w fun e w4 => ∃ s1, e = .returned s1 ∧ w4.cell? ⟨q, 0, none⟩ = some (.slice A2 n2 c2) ∧
      Calls Tryz.prog 101 #[s1, .slice A2 n2 c2] w4 fun e w5 => e = .returned (.bool true) ∧ w5.cell? ⟨q, 0, none⟩ = some (.slice A2 n2 c2) ∧ Q .normal (tailAct a p q r s1 (.slice A2 n2 c2)) w5) :
    wpAny Tryz.prog .any ops Q 10 (firstK 122 112) a w := by
  have O := o7
  have O' := o7'
  have SEL := sel7
  rw [ho] at O O' SEL
  simp only [Prod.mk.injEq] at O O'
  obtain ⟨o2, o3, o4, o5, o6⟩ := O
  obtain ⟨o7, o8, o9, o10, o11⟩ := O'
  refine wpAny_of_held (S := fun w' => w'.cell? ⟨q, 0, none⟩ = some (.slice A2 n2 c2)) _ _ _ _ ?_
  refine wpAnyH_take (i := 112) o2 SEL (by rw [← ho]; kernel_rfl) (by rw [← ho]; kernel_rfl) (fun c a w h => hQp c a _ _ w h) (.inl ⟨want7 ho hz hs rfl, fun w' hS => BigFrame.run_move _ rfl _⟩) hc ?_
  rw [h0]
  obtain ⟨a1, ha1⟩ : ∃ a1, a1 = a.put t112.dst (.pointer (some ⟨p, 0, none⟩)) := ⟨_, rfl⟩
  rw [← ha1]
  have z1 : a1.tmps.size = 240 := by rw [ha1]; exact (put_size _ _ _).trans hs
  have e1 : ∀ e, a1.eval (.tmp e) = if 146 = e ∧ e < 240 then .pointer (some ⟨p, 0, none⟩) else a.eval (.tmp e) := fun e => by rw [ha1, ← hs]; exact eval_put
  refine wpAnyH_take (i := 115) o5 SEL (by rw [← ho]; kernel_rfl) (by rw [← ho]; kernel_rfl) (fun c a w h => hQp c a _ _ w h) (.inl ⟨want7 ho (by rw [e1]; simpa using hz) z1 rfl, fun w' hS => BigFrame.run_move _ rfl _⟩) hc ?_
  rw [show a1.eval (.tmp 1) = .pointer (some ⟨q, 0, none⟩) by rw [e1]; simpa using h1]
  obtain ⟨a2, ha2⟩ : ∃ a2, a2 = a1.put t115.dst (.pointer (some ⟨q, 0, none⟩)) := ⟨_, rfl⟩
  rw [← ha2]
  have z2 : a2.tmps.size = 240 := by rw [ha2]; exact (put_size _ _ _).trans z1
  have e2 : ∀ e, a2.eval (.tmp e) = if 149 = e ∧ e < 240 then .pointer (some ⟨q, 0, none⟩) else a1.eval (.tmp e) := fun e => by rw [ha2, ← z1]; exact eval_put
  have q2 : a2.eval (.tmp 149) = .pointer (some ⟨q, 0, none⟩) := by rw [e2]; simp
  refine wpAnyH_take (i := 116) (v := .pointer (some ⟨q, 0, none⟩)) o6 SEL (by rw [← ho]; kernel_rfl) (by rw [← ho]; kernel_rfl) (fun c a w h => hQp c a _ _ w h) (.inl ⟨want7 ho (by rw [e2, e1]; simpa using hz) z2 rfl, fun w' hS => r116 _ _ _ q2⟩) hc ?_
  obtain ⟨a3, ha3⟩ : ∃ a3, a3 = a2.put t116.dst (.pointer (some ⟨q, 0, none⟩)) := ⟨_, rfl⟩
  rw [← ha3]
  have z3 : a3.tmps.size = 240 := by rw [ha3]; exact (put_size _ _ _).trans z2
  have e3 : ∀ e, a3.eval (.tmp e) = if 150 = e ∧ e < 240 then .pointer (some ⟨q, 0, none⟩) else a2.eval (.tmp e) := fun e => by rw [ha3, ← z2]; exact eval_put
  have q3 : a3.eval (.tmp 150) = .pointer (some ⟨q, 0, none⟩) := by rw [e3]; simp
  refine wpAnyH_take (i := 117) (v := .pointer (some ⟨q, 0, none⟩)) o7 SEL (by rw [← ho]; kernel_rfl) (by rw [← ho]; kernel_rfl) (fun c a w h => hQp c a _ _ w h) (.inl ⟨want7 ho (by rw [e3, e2, e1]; simpa using hz) z3 rfl, fun w' hS => r117 _ _ _ q3⟩) hc ?_
  obtain ⟨a4, ha4⟩ : ∃ a4, a4 = a3.put t117.dst (.pointer (some ⟨q, 0, none⟩)) := ⟨_, rfl⟩
  rw [← ha4]
  have z4 : a4.tmps.size = 240 := by rw [ha4]; exact (put_size _ _ _).trans z3
  have e4 : ∀ e, a4.eval (.tmp e) = if 151 = e ∧ e < 240 then .pointer (some ⟨q, 0, none⟩) else a3.eval (.tmp e) := fun e => by rw [ha4, ← z3]; exact eval_put
  have q4 : a4.eval (.tmp 151) = .pointer (some ⟨q, 0, none⟩) := by rw [e4]; simp
  refine wpAnyH_take (i := 118) (v := .slice A2 n2 c2) o8 SEL (by rw [← ho]; kernel_rfl) (by rw [← ho]; kernel_rfl) (fun c a w h => hQp c a _ _ w h) (.inl ⟨want7 ho (by rw [e4, e3, e2, e1]; simpa using hz) z4 rfl, fun w' hS => r118 _ _ _ _ _ _ q4 hS⟩) hc ?_
  obtain ⟨a5, ha5⟩ : ∃ a5, a5 = a4.put t118.dst (.slice A2 n2 c2) := ⟨_, rfl⟩
  rw [← ha5]
  have z5 : a5.tmps.size = 240 := by rw [ha5]; exact (put_size _ _ _).trans z4
  have e5 : ∀ e, a5.eval (.tmp e) = if 152 = e ∧ e < 240 then .slice A2 n2 c2 else a4.eval (.tmp e) := fun e => by rw [ha5, ← z4]; exact eval_put
  have f5 : a5.eval (.tmp 145) = .bool false := by rw [e5, e4, e3, e2, e1]; simpa using hz
  refine wpAnyH_all (rs := [113]) (by rw [← ho]; kernel_rfl) (by simp) (fun i hi => ?_)
  obtain rfl : i = 113 := by simpa using hi
  unfold wpOp
  simp only [o3]
  rw [if_pos (want7 ho f5 z5 rfl)]
  refine .inl (wp_enter (r113 _ _ (.pointer (some ⟨p, 0, none⟩)) rfl (by rw [e5, e4, e3, e2, e1]; simp)) (A30.mono ?_))
  rintro e w' ⟨rfl, rfl⟩
  refine ⟨_, rfl, hc, ?_⟩
  obtain ⟨a6, ha6⟩ : ∃ a6, a6 = a5.put t113.dst (.pointer (some ⟨r, 0, none⟩)) := ⟨_, rfl⟩
  rw [← ha6]
  have z6 : a6.tmps.size = 240 := by rw [ha6]; exact (put_size _ _ _).trans z5
  have e6 : ∀ e, a6.eval (.tmp e) = if 147 = e ∧ e < 240 then .pointer (some ⟨r, 0, none⟩) else a5.eval (.tmp e) := fun e => by rw [ha6, ← z5]; exact eval_put
  have f6 : a6.eval (.tmp 145) = .bool false := by rw [e6]; simpa using f5
  refine wpAnyH_all (rs := [114]) (by rw [← ho]; kernel_rfl) (by simp) (fun i hi => ?_)
  obtain rfl : i = 114 := by simpa using hi
  unfold wpOp
  simp only [o4]
  rw [if_pos (want7 ho f6 z6 rfl)]
  refine .inl (wp_enter (r114 _ _ (.pointer (some ⟨r, 0, none⟩)) rfl (by rw [e6]; simp)) (A53.mono ?_))
  rintro e w4 ⟨s1, rfl, hc4, A101⟩
  refine ⟨_, rfl, hc4, ?_⟩
  obtain ⟨a7, ha7⟩ : ∃ a7, a7 = a6.put t114.dst s1 := ⟨_, rfl⟩
  rw [← ha7]
  have z7 : a7.tmps.size = 240 := by rw [ha7]; exact (put_size _ _ _).trans z6
  have e7 : ∀ e, a7.eval (.tmp e) = if 148 = e ∧ e < 240 then s1 else a6.eval (.tmp e) := fun e => by rw [ha7, ← z6]; exact eval_put
  have f7 : a7.eval (.tmp 145) = .bool false := by rw [e7]; simpa using f6
  refine wpAnyH_all (rs := [119]) (by rw [← ho]; kernel_rfl) (by simp) (fun i hi => ?_)
  obtain rfl : i = 119 := by simpa using hi
  unfold wpOp
  simp only [o9]
  rw [if_pos (want7 ho f7 z7 rfl)]
  refine .inl (wp_enter (r119 _ _ s1 (.slice A2 n2 c2) rfl (by rw [e7]; simp) (by rw [e7, e6, e5]; simp)) (A101.mono ?_))
  rintro e w5 ⟨rfl, hc5, HQ⟩
  refine ⟨_, rfl, hc5, ?_⟩
  obtain ⟨a8, ha8⟩ : ∃ a8, a8 = a7.put t119.dst (.bool true) := ⟨_, rfl⟩
  rw [← ha8]
  have z8 : a8.tmps.size = 240 := by rw [ha8]; exact (put_size _ _ _).trans z7
  have e8 : ∀ e, a8.eval (.tmp e) = if 153 = e ∧ e < 240 then .bool true else a7.eval (.tmp e) := fun e => by rw [ha8, ← z7]; exact eval_put
  have f8 : a8.eval (.tmp 145) = .bool false := by rw [e8]; simpa using f7
  refine wpAnyH_take (i := 120) (v := .bool false) o10 SEL (by rw [← ho]; kernel_rfl) (by rw [← ho]; kernel_rfl) (fun c a w h => hQp c a _ _ w h) (.inl ⟨want7 ho f8 z8 rfl, fun w' hS => r120 _ _ (by rw [e8]; simp)⟩) hc5 ?_
  obtain ⟨a9, ha9⟩ : ∃ a9, a9 = a8.put t120.dst (.bool false) := ⟨_, rfl⟩
  rw [← ha9]
  have z9 : a9.tmps.size = 240 := by rw [ha9]; exact (put_size _ _ _).trans z8
  have e9 : ∀ e, a9.eval (.tmp e) = if 154 = e ∧ e < 240 then .bool false else a8.eval (.tmp e) := fun e => by rw [ha9, ← z8]; exact eval_put
  have f9 : a9.eval (.tmp 145) = .bool false := by rw [e9]; simpa using f8
  refine wpAnyH_take (i := 121) (v := .bool false) o11 SEL (by rw [← ho]; kernel_rfl) (by rw [← ho]; kernel_rfl) (fun c a w h => hQp c a _ _ w h) (.inl ⟨by unfold Region.wanted t121; rfl, fun w' hS => r121 _ _ f9 (by rw [e9]; simp)⟩) hc5 ?_
  refine wpAnyH_done (by rw [← ho]; kernel_rfl) ?_ _
  rw [ha9, ha8, ha7, ha6, ha5, ha4, ha3, ha2, ha1]
  exact HQ
end Go.Proofs.YtjmlkmlbhfkhbaaGreatDoor
namespace Go.Proofs.YtjmlkmlbhfkhbaaGreatDoor
open Go Go.RowKit

theorem ent_at {l : List Int} {k : Nat} {n : Int} (h : l[k]? = some n) : (entCells l)[k * 2]? = some (.bool (n == -1)) ∧ (entCells l)[k * 2 + 1]? = some (.int .i64 n) := by
  induction l generalizing k with
  | nil => simp at h
  | cons q l ih =>
    cases k with
    | zero => simp at h; subst h; simp [entCells]
    | succ k =>
      simp at h
      have := ih h
      rw [show (k + 1) * 2 = k * 2 + 1 + 1 by omega]
      simpa [entCells] using this

structure SameIn (w : World) (c : Col) (h : Hd) (g : Sd) (st : St) (N : Nat) : Prop where
  b : BRep w c h st
  s : SRep w c g st
  wf : Wf N st
  hN : N ≤ 9000000
  stk : st.stk.length ≤ 1000
  fmt : st.fmt.length ≤ 1000
  modes : st.modes.length ≤ 1000
  hd : h.sd = 1
  gd : g.sd = 2
theorem SameIn.loc {w w' : World} {c : Col} {h : Hd} {g : Sd} {st : St} {N : Nat} (H : SameIn w c h g st N) (hb : Below w.heap.size w w') : SameIn w' c h g st N :=
  ⟨H.b.loc hb, H.s.loc hb, H.wf, H.hN, H.stk, H.fmt, H.modes, H.hd, H.gd⟩

/-- The cells of the reference's block that Same reads. -/
def SameC (g : Sd) (Y : SSh) (st : St) (b : Bool) (q : Int) (n : Str) (W : World) : Prop := W.cell? ⟨g.g, 0, none⟩ = some (.slice Y.nA st.ns.length Y.ncap) ∧ W.cell? ⟨g.g, 1, none⟩ = some (.slice Y.oA st.stk.length Y.ocap) ∧ W.cell? ⟨g.g, 2, none⟩ = some (.slice Y.lA st.fmt.length Y.lcap) ∧ W.cell? ⟨g.g, 3, none⟩ = some (.int .i64 st.mode) ∧ W.cell? ⟨g.g, 4, none⟩ = some (.int .i64 st.back) ∧ W.cell? ⟨g.g, 5, none⟩ = some (.slice Y.mA st.modes.length Y.mcap) ∧ W.cell? ⟨g.g, 6, none⟩ = some (.int .i64 st.head) ∧ W.cell? ⟨g.g, 7, none⟩ = some (.int .i64 st.form) ∧ W.cell? ⟨g.g, 8, none⟩ = some (.bool st.quirks) ∧ W.cell? ⟨g.g, 11, none⟩ = some (.string st.pending) ∧ W.cell? ⟨g.g, 12, none⟩ = some (.bool b) ∧ W.cell? ⟨g.g, 13, none⟩ = some (.int .i64 q) ∧ W.cell? ⟨g.g, 14, none⟩ = some (.string n)

def SameQ (h : Hd) (g : Sd) (st : St) (w : World) (c : Col) (e : Ending) (w' : World) : Prop := e = .returned (.bool true) ∧ ∃ c', BRep w' c' h { st with ask := none } ∧ SRep w' c' g { st with ask := none } ∧ Mv Own w c w' c'
end Go.Proofs.YtjmlkmlbhfkhbaaGreatDoor
