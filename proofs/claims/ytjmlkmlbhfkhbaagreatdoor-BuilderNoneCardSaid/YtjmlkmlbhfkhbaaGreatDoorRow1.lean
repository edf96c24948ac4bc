/-
  The row of BuilderNone, proved.
-/
import Derived.Test.YtjmlkmlbhfkhbaaGreatDoorRow0
import Derived.Test.YtjmlkmlbhfkhbaaGreatDoorLaw1
namespace Go.Proofs.YtjmlkmlbhfkhbaaGreatDoor
open Go Go.RowKit Go.ChangeShapes Go.WideShapes Go.WideElems Go.ChangeAt

abbrev laid1 : List (String × DataW Unit) := [("errors.errorType", Rows.laid_errors_errorType), ("lazaret/kinds.scopes", Rows.laid_lazaret_kinds_scopes), ("lazaret/builder.by", Rows.laid_lazaret_builder_by)]

theorem by_of_laid1 {W : World} (h : laidMetH Tryz.prog laid1 W) : ByOk W col0 := by
  have h' := h.filter (fun x => x.1 == "lazaret/builder.by")
  have e : laid1.filter (fun x => x.1 == "lazaret/builder.by") = laidBy := by rfl
  rw [e] at h'
  obtain ⟨mb, es, clock, hb⟩ := by_of_laid h'
  exact ⟨mb, es, clock, rfl, rfl, hb⟩

theorem door_met1 (os : Os) (args : Array Value) : laidMetH Tryz.prog laid1 ((World.doorLaid Tryz.prog 121 os).forCall (fun _ _ => 0) ⟨#[], args, []⟩).memory :=
  laidMetH_of_parts3 (fuel := 8) (laidMet_of_run' 8 (by kernel_rfl) (by kernel_rfl)) (by kernel_rfl) (by kernel_rfl)

/-- A token of nothing. -/
def tok0 : Value := .agg #[.int .i64 0, .string ⟨#[]⟩, .string ⟨#[]⟩, .slice none 0 0, .bool false, .bool false, .bool false, .int .i64 0, .int .i64 0]

set_option maxRecDepth 100000 in
theorem lifted1 (os : Os) (started : os.Started) (H : Type) (enc : TypeId × Value → H) :
    ReturnsInHanded {} Tryz.checked os 3 .any (fun w args => (Rows.builderNoneSpec.pre enc Tryz.prog Tryz.f3 [] false w args ∧ laidMetH Tryz.prog laid1 w) ∧ sizedMet enc Tryz.prog Tryz.f3 (OpenSpec.ofChange Rows.builderNoneSpec) false w args)
      (Rows.builderNoneSpec.post enc Tryz.prog Tryz.f3 false true false false) := by
  refine returnsInHanded_of_change_and (C := Tryz.checked) (X := fun w _ => laidMetH Tryz.prog laid1 w) (fun _ _ _ hh h => h.of_heap hh) own started (by kernel_rfl) Tryz.func3
    (ChangeSpec.witness_shaped (enc := enc) (C := Tryz.checked) (os := os) (X := fun w _ => laidMetH Tryz.prog laid1 w) false (World.doorLaid Tryz.prog 121 os) #[tok0, .int .i64 0] 8 rfl (World.shaped_of_RefB (by kernel_rfl) (by kernel_rfl)) (by kernel_rfl) (by kernel_rfl) (by kernel_rfl) (door_met1 os _)) ?_
  intro W base args ds gs before hval0 hW _ _ hL _
  have hval : ∀ (j : Nat) t v, Tryz.f3.params[j]? = some t → args[j]? = some v → Value.okWide Tryz.prog W .any base t v := hval0
  have hW' := hW
  obtain ⟨p, q, hA0, hV, rfl, hfz, hnd⟩ := hW
  have hA : DataW.TrodAll enc Tryz.prog W 0 (fun _ => true) true Tryz.f3.params.toList args.toList ds p := hA0
  rw [Tryz.params3] at hA hval
  obtain ⟨v0, v1, d0, d1, p0, p1, rfl, rfl, rfl, h0, h1⟩ := trodAll_two hA
  obtain ⟨rfl, rfl⟩ := trodVars_none hV
  obtain ⟨m, rfl, rfl, rfl, hwm⟩ := open_int Tryz.underlying3 (hval 1 3 v1 rfl rfl) h1
  obtain ⟨t, rfl, hs⟩ := open_tok (hval 0 24 v0 rfl rfl) h0
  clear hA0 hval0
  refine (law3 (good0 W) (by_of_laid1 hL) t m hs).mono fun e W' ⟨he, c', hm⟩ => ?_
  subst he
  have hlt : ∀ p ∈ p0, p.block < W.heap.size := fun p hp => hW'.lt p (by simp [hp])
  have h0' : DataW.Trod enc Tryz.prog W' 0 (fun b => decide (b < W.heap.size)) true 24 t.val d0 p0 :=
    Trod_stays laidOut (by kernel_rfl) (of_decide_eq_true (by kernel_rfl)) h0 (fun p hp => hm.same (hlt p hp)) (fun p hp => by simpa using hlt p hp)
  refine ⟨_, rfl, _, _, _, [], p0 ++ [], [], hW', ?_, ?_, ?_, hm.kept _, fun h => by cases h⟩
  · exact trodAll_mk1 (shut_bool Tryz.underlying4 true)
  · exact trodAll_mk2 h0' (shut_int Tryz.underlying3 hwm)
  · rfl

theorem builderNone_holds : Rows.BuilderNoneSaid :=
  OpenClaim.holds_of_wide 3 Tryz.f3 rfl rfl rfl rfl rfl rfl rfl ⟨rfl, rfl, rfl, rfl, rfl⟩ rfl rfl rfl rfl rfl (by kernel_rfl) Tryz.func3 (by kernel_rfl)
    (of_decide_eq_true (by kernel_rfl)) (by unfold Func.isWrapper; first | (rw [if_pos (by decide +kernel)]; kernel_rfl) | (rw [if_neg (by decide +kernel)]; exact ⟨rfl, rfl⟩))
    (fun os started H enc _ => lifted1 os started H enc)
#print axioms builderNone_holds
end Go.Proofs.YtjmlkmlbhfkhbaaGreatDoor
