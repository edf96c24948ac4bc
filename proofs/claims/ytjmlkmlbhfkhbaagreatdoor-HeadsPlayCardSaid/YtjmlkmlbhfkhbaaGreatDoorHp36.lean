/-
  A region that draws its order: its first m operations are quiet, and all others wait for them: one walk of the first ones in the text's order, then whatever order of the rest.
-/
import Derived.Deep.Quiet
import Derived.StillTail
import Derived.BigQuiet
set_option linter.unusedSimpArgs false
set_option linter.unusedVariables false
namespace Go.Proofs.YtjmlkmlbhfkhbaaGreatDoor
open Go Go.RowKit

section
variable {P : Program} {ops : Array Oper} {md : Region.Mode} {C : World → Prop}

/-- Whatever order the first f operations come in, each quiet; then L. -/
def preRun (P : Program) (md : Region.Mode) (ops : Array Oper) (C : World → Prop) (L : Array Bool → Act → Prop) : Nat → Array Bool → Act → Prop
  | 0, li, a => L li a
  | f + 1, li, a => Region.ready md ops li ≠ [] ∧ ∀ i ∈ Region.ready md ops li, qOp P ops C i (preRun P md ops C L f (li.setIfInBounds i true)) a

theorem preRun_any {L : Array Bool → Act → Prop} {g : Nat} {Q : Exit → Act → World → Prop} (hL : ∀ li a w, C w → L li a → wpAny P md ops Q g li a w) :
    ∀ (f : Nat) (li : Array Bool) (a : Act) (w : World), C w → preRun P md ops C L f li a → wpAny P md ops Q (f + g) li a w := by
  intro f
  induction f with
  | zero =>
    intro li a w hw h
    rw [Nat.zero_add]
    exact hL _ _ _ hw h
  | succ f ih =>
    intro li a w hw h
    rw [show f + 1 + g = f + g + 1 by omega]
    exact ⟨fun e => absurd e h.1, fun i hi => wpOp_of_qOp hw (fun a' w' hw' hk => ih _ a' w' hw' hk) (h.2 i hi)⟩

/-- All operations behind the first m wait for the last of these. -/
def tailB (md : Region.Mode) (ops : Array Oper) (m : Nat) : Bool := (List.range ops.size).all fun t => decide (t ≤ m) || Region.waitsFor md ops t m

/-- While one of the first ones has not come, the last of them has not. -/
theorem head_last {m : Nat} {li : Array Bool} (hs : Region.sinkB md ops m = true) (hm : m < ops.size) (inv : HeadInv md ops (m + 1) li) :
    ∀ (d i : Nat), m - i ≤ d → i ≤ m → li.getD i true = false → li.getD m true = false := by
  intro d
  induction d with
  | zero =>
    intro i hd hi hu
    obtain rfl : i = m := by omega
    exact hu
  | succ d ih =>
    intro i hd hi hu
    by_cases him : i = m
    · rw [← him]; exact hu
    · obtain ⟨j, hj, hj2⟩ := List.any_eq_true.1 (List.all_eq_true.1 hs i (List.mem_range.2 (by omega)))
      simp only [Bool.and_eq_true, decide_eq_true_eq] at hj2
      have hjm := List.mem_range.1 hj
      obtain ⟨oj, hoj, e, he, hb, hon⟩ := Region.waitsFor_spec hj2.2
      refine ih j (by omega) (by omega) ?_
      cases hl : li.getD j false with
      | true =>
        have := inv.closed j oj hoj hl e he hb
        rw [hon, getD_both hu] at this
        cases this
      | false => exact getD_in (by rw [inv.size]; omega) hl
theorem head_only {m : Nat} {li : Array Bool} (hs : Region.sinkB md ops m = true) (ht : tailB md ops m = true) (hm : m < ops.size) (inv : HeadInv md ops (m + 1) li)
    {i : Nat} (hi : i ≤ m) (hu : li.getD i true = false) {t : Nat} (hr : t ∈ Region.ready md ops li) : t ≤ m := by
  have hl := head_last hs hm inv (m - i) i (Nat.le_refl _) hi hu
  obtain ⟨-, o, ho, hall⟩ := mem_ready.1 hr
  have h1 := List.all_eq_true.1 ht t (List.mem_range.2 (Array.getElem?_eq_some_iff.1 ho).1)
  simp only [Bool.or_eq_true, decide_eq_true_eq] at h1
  rcases h1 with h1 | h1
  · exact h1
  · obtain ⟨o', ho', e, he, hb, hon⟩ := Region.waitsFor_spec h1
    obtain rfl := Option.some.inj (ho.symm.trans ho')
    have := hall e he hb
    rw [hon, getD_both hl] at this
    cases this

def Alone (md : Region.Mode) (ops : Array Oper) (oi : Oper) (i : Nat) (li : Array Bool) : Prop :=
  ∀ (j : Nat) (oj : Oper), ops[j]? = some oj → j ≠ i → li.getD j true = false → (∀ e ∈ oj.after, Region.binds md e = true → e.on ≠ i) → oi.apart ops oj = true
theorem Alone.set {oi : Oper} {i j : Nat} {li : Array Bool} (h : Alone md ops oi i li) (hj : li.getD j true = false) : Alone md ops oi i (li.setIfInBounds j true) := by
  intro k ok hk hki hun hno
  refine h k ok hk hki ?_ hno
  by_cases e : j = k
  · rw [← e]; exact hj
  · rwa [getD_set_ne true e] at hun

/-- One of the first ones, that may come up, may be taken first. -/
theorem preRun_take {m : Nat} {L : Array Bool → Act → Prop} (hsel : Region.noSelect ops = true) (hs : Region.sinkB md ops m = true) (ht : tailB md ops m = true) (hm : m < ops.size)
    (hL : ∀ li a, L li a → ∀ t ∈ Region.ready md ops li, m < t) {i : Nat} {oi : Oper} {v : Value} (hi : ops[i]? = some oi) (him : i ≤ m) :
    ∀ (f : Nat) (li : Array Bool) (a : Act), HeadInv md ops (m + 1) li → Alone md ops oi i li → i ∈ Region.ready md ops li → YieldsIn P ops C oi v a →
      preRun P md ops C L f (li.setIfInBounds i true) (a.put oi.dst v) → preRun P md ops C L (f + 1) li a := by
  have sel := Region.noSelect_spec hsel
  intro f
  induction f with
  | zero =>
    intro li a inv al hr hy H
    have hu := (mem_ready.1 hr).1
    refine ⟨List.ne_nil_of_mem hr, fun j hj => ?_⟩
    by_cases e : j = i
    · rw [e]; exact hy.qOp hi H
    · have h1 := hL _ _ H j (ready_mono hj e)
      have h2 := head_only hs ht hm inv him hu hj
      omega
  | succ f ih =>
    intro li a inv al hr hy H
    have hu := (mem_ready.1 hr).1
    refine ⟨List.ne_nil_of_mem hr, fun j hj => ?_⟩
    by_cases e : j = i
    · rw [e]; exact hy.qOp hi H
    · have hjm := head_only hs ht hm inv him hu hj
      obtain ⟨hju, oj, hoj, hall⟩ := mem_ready.1 hj
      have hno : ∀ e ∈ oj.after, Region.binds md e = true → e.on ≠ i := by
        intro e he hb hon
        have := hall e he hb
        rw [hon, getD_both hu] at this
        cases this
      refine qOp_mono (fun a' h3 => ih _ a' (inv.set hj (by omega)) (al.set hju) (ready_mono hr (Ne.symm e)) h3.1 ?_)
        (qOp_put hoj (al j oj hoj e hju hno) (fun cs b => sel i oi cs b hi) (fun cs b => sel j oj cs b hoj) hy (H.2 j (ready_mono hj e)))
      rw [Array.setIfInBounds_comm _ _ e]
      exact h3.2

/-- Each operation has a slot of its own, in the text's order, and looks only at slots ahead of the region and at those of operations that it waits for. -/
def ssaB (md : Region.Mode) (ops : Array Oper) (base : Nat) : Bool := (List.range ops.size).all fun j => match ops[j]? with
  | none => true
  | some o => o.dst == some (base + j) && ((o.looksAt ops).all (fun d => decide (d < base) || o.after.any (fun e => Region.binds md e && base + e.on == d)) && o.after.all (fun e => !Region.binds md e || decide (e.on < j)))
theorem ssa_at {base : Nat} (h : ssaB md ops base = true) {j : Nat} {o : Oper} (ho : ops[j]? = some o) :
    o.dst = some (base + j) ∧ (∀ d ∈ o.looksAt ops, d < base ∨ ∃ e ∈ o.after, Region.binds md e = true ∧ base + e.on = d) ∧ (∀ e ∈ o.after, Region.binds md e = true → e.on < j) := by
  have h1 := List.all_eq_true.1 h j (List.mem_range.2 (Array.getElem?_eq_some_iff.1 ho).1)
  simp only [ho, Bool.and_eq_true, beq_iff_eq] at h1
  refine ⟨h1.1, fun d hd => ?_, fun e he hb => ?_⟩
  · have := List.all_eq_true.1 h1.2.1 d hd
    simp only [Bool.or_eq_true, decide_eq_true_eq] at this
    rcases this with q | q
    · exact .inl q
    · obtain ⟨e, he, hq⟩ := Array.any_eq_true'.1 q
      simp only [Bool.and_eq_true, beq_iff_eq] at hq
      exact .inr ⟨e, he, hq.1, hq.2⟩
  · have := Array.all_eq_true_iff_forall_mem.1 h1.2.2 e he
    simp only [hb, Bool.not_true, Bool.false_or, decide_eq_true_eq] at this
    exact this
theorem ssa_apart {base : Nat} (h : ssaB md ops base = true) {k j : Nat} {ok oj : Oper} (hk : ops[k]? = some ok) (hj : ops[j]? = some oj) (hkj : k < j)
    (hno : ∀ e ∈ oj.after, Region.binds md e = true → e.on ≠ k) : ok.apart ops oj = true := by
  obtain ⟨a1, a2, a3⟩ := ssa_at h hk
  obtain ⟨b1, b2, b3⟩ := ssa_at h hj
  have c1 : (oj.looksAt ops).contains (base + k) = false := by
    cases hc : (oj.looksAt ops).contains (base + k) with
    | false => rfl
    | true =>
      rcases b2 _ (by simpa using hc) with q | ⟨e, he, hb, q⟩
      · exact absurd q (Nat.not_lt.2 (Nat.le_add_right _ _))
      · exact absurd (Nat.add_left_cancel q) (hno e he hb)
  have c2 : (ok.looksAt ops).contains (base + j) = false := by
    cases hc : (ok.looksAt ops).contains (base + j) with
    | false => rfl
    | true =>
      rcases a2 _ (by simpa using hc) with q | ⟨e, he, hb, q⟩
      · exact absurd q (Nat.not_lt.2 (Nat.le_add_right _ _))
      · have h1 := a3 e he hb
        have h2 : e.on = j := Nat.add_left_cancel q
        omega
  unfold Oper.apart
  rw [a1, b1]
  simp only [c1, c2]
  simp
  omega

/-- The first k of n are listed. -/
def firstK (n k : Nat) : Array Bool := Array.ofFn (n := n) fun i => decide (i.val < k)
theorem firstK_size (n k : Nat) : (firstK n k).size = n := by simp [firstK]
theorem firstK_getD (n k i : Nat) (d : Bool) : (firstK n k).getD i d = if i < n then decide (i < k) else d := by
  unfold firstK
  simp [Array.getD_eq_getD_getElem?, Array.getElem?_ofFn]
  split <;> simp
theorem firstK_set {n k : Nat} (h : k < n) : (firstK n k).setIfInBounds k true = firstK n (k + 1) := by
  apply Array.ext_getElem?
  intro i
  unfold firstK
  rw [Array.getElem?_setIfInBounds]
  simp only [Array.getElem?_ofFn, Array.size_ofFn]
  by_cases hi : i < n
  · by_cases e : k = i
    · subst e
      simp [hi]
    · rw [if_neg e, dif_pos hi, dif_pos hi]
      congr 1
      have : (i < k) ↔ (i < k + 1) := by omega
      exact decide_eq_decide.2 this
  · have e : k ≠ i := by omega
    rw [if_neg e, dif_neg hi, dif_neg hi]
theorem firstK_zero (n : Nat) : firstK n 0 = Array.replicate n false := by
  apply Array.ext
  · simp [firstK]
  · intro i h1 h2
    simp [firstK]

theorem preRun_lex {m base : Nat} {K : Act → Prop} (hsel : Region.noSelect ops = true) (hs : Region.sinkB md ops m = true) (ht : tailB md ops m = true) (hm : m < ops.size) (hA : ssaB md ops base = true) :
    ∀ (l : List Oper) (k : Nat) (a : Act), (∀ j, j < l.length → l[j]? = ops[k + j]?) → k + l.length = m + 1 → HeadInv md ops (m + 1) (firstK ops.size k) →
      wpQuiet P ops C K l a → preRun P md ops C (fun li a => li = firstK ops.size (m + 1) ∧ K a) l.length (firstK ops.size k) a := by
  intro l
  induction l with
  | nil =>
    intro k a _ hk _ h
    simp only [List.length_nil, Nat.add_zero] at hk
    exact ⟨by rw [hk], h⟩
  | cons o l ih =>
    intro k a hl hk inv h
    simp only [List.length_cons] at hl hk ⊢
    have h0 : ops[k]? = some o := by simpa using (hl 0 (by omega)).symm
    obtain ⟨s1, s2, s3⟩ := ssa_at hA h0
    have hr : k ∈ Region.ready md ops (firstK ops.size k) := mem_ready.2 ⟨by rw [firstK_getD, if_pos (by omega)]; simp, o, h0, fun e he hb => by
      have := s3 e he hb
      rw [firstK_getD, if_pos (by omega)]; simpa using this⟩
    obtain ⟨v, hy, hK⟩ := yieldsIn_of_qOp h0 (show qOp P ops C k (wpQuiet P ops C K l) a by unfold qOp; simp only [h0]; exact h)
    refine preRun_take hsel hs ht hm (fun li' a' hL t htr => ?_) h0 (by omega) l.length _ a inv (fun j oj hj hne hu hno => ?_) hr hy ?_
    · rw [hL.1] at htr
      obtain ⟨q, o', ho', -⟩ := mem_ready.1 htr
      have := (Array.getElem?_eq_some_iff.1 ho').1
      rw [firstK_getD, if_pos this] at q
      simp at q
      omega
    · have hjs := (Array.getElem?_eq_some_iff.1 hj).1
      rw [firstK_getD, if_pos hjs] at hu
      simp at hu
      exact ssa_apart hA h0 hj (by omega) hno
    · rw [firstK_set (by omega)]
      exact ih (k + 1) _ (fun j hj => by have := hl (j + 1) (by omega); simpa [Nat.add_assoc, Nat.add_comm 1 j] using this) (by omega) (by rw [← firstK_set (by omega)]; exact inv.set hr (by omega)) hK

/-- The walk in pieces. -/
theorem wpQuiet_cut {Q : Act → Prop} (n : Nat) {a' : Act} : ∀ (l : List Oper) (a : Act), wpQuiet P ops C (fun x => x = a') (l.take n) a → wpQuiet P ops C Q (l.drop n) a' → wpQuiet P ops C Q l a := by
  induction n with
  | zero =>
    intro l a h1 h2
    have : a = a' := by simpa [wpQuiet] using h1
    rw [this]
    simpa using h2
  | succ n ih =>
    intro l a h1 h2
    cases l with
    | nil =>
      have : a = a' := by simpa [wpQuiet] using h1
      rw [this]
      simpa using h2
    | cons o l =>
      simp only [List.take_succ_cons, List.drop_succ_cons] at h1 h2
      unfold wpQuiet at h1 ⊢
      split at h1
      · rename_i hw
        rw [if_pos hw]
        exact Oper.quiet_mono (fun a h => ih l a h h2) h1
      · rename_i hw
        rw [if_neg hw]
        exact ih l _ h1 h2

def preB (md : Region.Mode) (ops : Array Oper) (m base : Nat) : Bool :=
  Region.noSelect ops && (Region.sinkB md ops m && (tailB md ops m && (decide (m < ops.size) && ssaB md ops base)))

theorem wp_region_pre {id : Nat} {Q : Exit → Act → World → Prop} {a : Act} {w : World} {l : List Oper} (m base : Nat) (hm : P.follows .mixedOrders = true) (hB : preB .any l.toArray m base = true)
    (h : wpQuiet P l.toArray (fun w' => ∃ n, w' = w.drewN n) (fun a' => ∀ w', (∃ n, w' = w.drewN n) → wpAny P .any l.toArray Q (l.length - (m + 1)) (firstK l.length (m + 1)) a' w') (l.take (m + 1)) a) : (Code.region id l.toArray true).wp P Q a w := by
  simp only [preB, Bool.and_eq_true, decide_eq_true_eq] at hB
  obtain ⟨h1, h2, h3, h4, h5⟩ := hB
  have h4' : m < l.length := by simpa using h4
  have hl : (l.take (m + 1)).length = m + 1 := by rw [List.length_take]; omega
  have inv0 : HeadInv .any l.toArray (m + 1) (firstK l.toArray.size 0) :=
    ⟨firstK_size _ _, fun j oj ho hq => (by rw [firstK_getD, if_pos (Array.getElem?_eq_some_iff.1 ho).1] at hq; simp at hq), fun t _ hq => by rw [firstK_getD, if_pos hq]; simp⟩
  have R := preRun_lex (md := .any) h1 h2 h3 h4 h5 (l.take (m + 1)) 0 a (fun j hj => by rw [hl] at hj; simp [hj]) (by omega) inv0 h
  have G := preRun_any (md := .any) (g := l.length - (m + 1)) (Q := Q) (fun li a' w' hw' hL => by rw [hL.1]; simpa using hL.2 w' hw') _ _ a { w with drawn := w.drawn + 1 } ⟨1, rfl⟩ R
  rw [hl, show m + 1 + (l.length - (m + 1)) = l.length by omega, firstK_zero] at G
  refine wp_region_any hm ?_
  simpa using G
end
end Go.Proofs.YtjmlkmlbhfkhbaaGreatDoor
