/-
  NARROWER THAN 'FOR EVERY INPUT', by the rows' own cells (each row's printed sentence says how): BuilderNone: laid · HeadsBody: laid · HeadsPlay: laid.
  DERIVED. THE GIVEN ROWS OF THIS SEAT. 3 by the template 'for every input the law returns true; each argument reads behind the call as it read before'; 0 by the template 'total and deterministic' (their statements: YtjmlkmlbhfkhbaaGreatDoorTotals.lean).
  GIVEN WITH THE SEED: the statements are not yours to turn. If you find one false, say at which input.
  Laid BY PROGRAM, IN A SANDBOX (cutbox-rows.mjs): the forced cells as the released guide's own fill.sh prints them over the translation 94e5a242833977cd… (all of the seat's roots in one cut). By AI agents, Wed Nov 11 2026. No macro, syntax, notation, axiom, sorry.
-/
import Derived.Test.YtjmlkmlbhfkhbaaGreatDoorChecked
import GoSem.Claim
import GoSem.ClaimJoined
import GoSem.ClaimMapViews
import Derived.JoinedTies
import Derived.KernelRfl
namespace Go.Proofs.YtjmlkmlbhfkhbaaGreatDoor
/- THE CELL 'sum', in the pinned program and in every row, IS THE sha256 OF THE DUMP (.gsa) THAT YtjmlkmlbhfkhbaaGreatDoorProg.lean LOADS. Nothing in Lean hashes anything: it is a label: what it is worth is what the hold of that sum in a sandbox is worth. -/
noncomputable def Tryz.pinned : Pinned := { name := "ytjmlkmlbhfkhbaagreatdoor", sum := "94e5a242833977cda241f3dbcb06dfea2e508c949d3c94ab7a2cee64f2366576", checked := Tryz.checked }
namespace Rows
def none {H : Type} : Left H := { results := [], args := [] }

/- WHAT THE LISTED PACKAGE-LEVEL VARIABLES READ AS WHEN THE CALL BEGINS. Each datum BY PROGRAM (the guide's laid-datum.mjs) off the statement by which the dump's own 'gosem.cut.vars' lays the variable. In a bare row this is a premise. The card (YtjmlkmlbhfkhbaaGreatDoorCards.lean) ties it to the program's text. -/
def laid_errors_errorType {H : Type} : DataW H := .iface "internal/reflectlite.rtype" (.agg [.ptr (.lit (.string [101, 114, 114, 111, 114]))])
def laid_lazaret_kinds_scopes {H : Type} : DataW H := .agg [.lit (.string [32, 97, 112, 112, 108, 101, 116, 32, 99, 97, 112, 116, 105, 111, 110, 32, 104, 116, 109, 108, 32, 109, 97, 114, 113, 117, 101, 101, 32, 111, 98, 106, 101, 99, 116, 32, 116, 97, 98, 108, 101, 32, 116, 100, 32, 116, 101, 109, 112, 108, 97, 116, 101, 32, 116, 104, 32]), .lit (.string [32, 97, 112, 112, 108, 101, 116, 32, 99, 97, 112, 116, 105, 111, 110, 32, 104, 116, 109, 108, 32, 109, 97, 114, 113, 117, 101, 101, 32, 111, 98, 106, 101, 99, 116, 32, 116, 97, 98, 108, 101, 32, 116, 100, 32, 116, 101, 109, 112, 108, 97, 116, 101, 32, 116, 104, 32, 111, 108, 32, 117, 108, 32]), .lit (.string [32, 97, 112, 112, 108, 101, 116, 32, 99, 97, 112, 116, 105, 111, 110, 32, 104, 116, 109, 108, 32, 109, 97, 114, 113, 117, 101, 101, 32, 111, 98, 106, 101, 99, 116, 32, 116, 97, 98, 108, 101, 32, 116, 100, 32, 116, 101, 109, 112, 108, 97, 116, 101, 32, 116, 104, 32, 98, 117, 116, 116, 111, 110, 32]), .lit (.string [32, 104, 116, 109, 108, 32, 116, 97, 98, 108, 101, 32, 116, 101, 109, 112, 108, 97, 116, 101, 32])]
def laid_lazaret_builder_by {H : Type} : DataW H := .map [(.string [98, 111, 100, 121], .lit (.int .i64 6)), (.string [99, 97, 112, 116, 105, 111, 110], .lit (.int .i64 10)), (.string [99, 111, 108, 103, 114, 111, 117, 112], .lit (.int .i64 11)), (.string [104, 101, 97, 100], .lit (.int .i64 3)), (.string [116, 97, 98, 108, 101], .lit (.int .i64 8)), (.string [116, 98, 111, 100, 121], .lit (.int .i64 12)), (.string [116, 100], .lit (.int .i64 14)), (.string [116, 102, 111, 111, 116], .lit (.int .i64 12)), (.string [116, 104], .lit (.int .i64 14)), (.string [116, 104, 101, 97, 100], .lit (.int .i64 12)), (.string [116, 114], .lit (.int .i64 13))]
def laid_lazaret_heads_steps {H : Type} : DataW H := .iface "func table" (.map [(.int .i64 0, .iface "func" (.lit (.string [108, 97, 122, 97, 114, 101, 116, 47, 104, 101, 97, 100, 115, 46, 105, 110, 105, 116, 105, 97, 108]))), (.int .i64 1, .iface "func" (.lit (.string [108, 97, 122, 97, 114, 101, 116, 47, 104, 101, 97, 100, 115, 46, 98, 101, 102, 111, 114, 101, 72, 84, 77, 76]))), (.int .i64 2, .iface "func" (.lit (.string [108, 97, 122, 97, 114, 101, 116, 47, 104, 101, 97, 100, 115, 46, 98, 101, 102, 111, 114, 101, 72, 101, 97, 100]))), (.int .i64 3, .iface "func" (.lit (.string [108, 97, 122, 97, 114, 101, 116, 47, 104, 101, 97, 100, 115, 46, 72, 101, 97, 100]))), (.int .i64 4, .iface "func" (.lit (.string [108, 97, 122, 97, 114, 101, 116, 47, 104, 101, 97, 100, 115, 46, 110, 111, 115, 99, 114, 105, 112, 116]))), (.int .i64 5, .iface "func" (.lit (.string [108, 97, 122, 97, 114, 101, 116, 47, 104, 101, 97, 100, 115, 46, 97, 102, 116, 101, 114, 72, 101, 97, 100]))), (.int .i64 7, .iface "func" (.lit (.string [108, 97, 122, 97, 114, 101, 116, 47, 104, 101, 97, 100, 115, 46, 116, 101, 120, 116])))])

/-- 'lazaretlaw17.BuilderNone': WHATEVER THE INPUT: true; the input reads as it did. -/
def builderNoneSpec : ChangeSpec := { name := "builderNone", fn := fun _ => fun
  | [d1, d2] => { results := [.lit (.bool true)], args := [d1, d2] }
  | _ => none }
def builderNoneRow : OpenClaim := { program := "ytjmlkmlbhfkhbaagreatdoor", sum := "94e5a242833977cda241f3dbcb06dfea2e508c949d3c94ab7a2cee64f2366576", func := "lazaret/lazaretlaw17.BuilderNone", spec := "builderNone", inPlace := ["slices.overlaps[lazaret/stack.open]", "slices.overlaps[int]", "internal/reflectlite.ValueOf", "(internal/reflectlite.Value).Type", "(internal/reflectlite.Value).IsNil", "internal/reflectlite.TypeOf", "(internal/reflectlite.Value).Elem", "(internal/reflectlite.Value).Set", "internal/bytealg.IndexByteString", "internal/bytealg.IndexString"], unfollowed := true, recurses := true, named := ["lazaret/builder.by", "errors.errorType", "lazaret/kinds.scopes", "internal/bytealg.MaxLen"], apart := false, laid := [("errors.errorType", laid_errors_errorType), ("lazaret/kinds.scopes", laid_lazaret_kinds_scopes), ("lazaret/builder.by", laid_lazaret_builder_by)] }
def BuilderNoneSaid : Prop := builderNoneRow.holds Tryz.pinned (OpenSpec.ofChange builderNoneSpec)

/-- ITS FALSE NEIGHBOUR: 'it returns false'. Refute it at one input. -/
def builderNoneWrong : ChangeSpec := { name := "builderNone", fn := fun _ => fun
  | [d1, d2] => { results := [.lit (.bool false)], args := [d1, d2] }
  | _ => none }
def BuilderNoneWrongFalsely : Prop := builderNoneRow.holds Tryz.pinned (OpenSpec.ofChange builderNoneWrong)

/-- 'lazaretlaw19.HeadsBody': WHATEVER THE INPUT: true; the input reads as it did. -/
def headsBodySpec : ChangeSpec := { name := "headsBody", fn := fun _ => fun
  | [d] => { results := [.lit (.bool true)], args := [d] }
  | _ => none }
def headsBodyRow : OpenClaim := { program := "ytjmlkmlbhfkhbaagreatdoor", sum := "94e5a242833977cda241f3dbcb06dfea2e508c949d3c94ab7a2cee64f2366576", func := "lazaret/lazaretlaw19.HeadsBody", spec := "headsBody", inPlace := ["slices.overlaps[lazaret/stack.open]", "slices.overlaps[int]", "internal/bytealg.IndexByteString", "internal/bytealg.IndexString", "internal/reflectlite.ValueOf", "(internal/reflectlite.Value).Type", "(internal/reflectlite.Value).IsNil", "internal/reflectlite.TypeOf", "(internal/reflectlite.Value).Elem", "(internal/reflectlite.Value).Set"], unfollowed := true, recurses := true, named := ["lazaret/heads.steps", "internal/bytealg.MaxLen", "lazaret/builder.by", "errors.errorType"], apart := false, laid := [("errors.errorType", laid_errors_errorType), ("lazaret/builder.by", laid_lazaret_builder_by), ("lazaret/heads.steps", laid_lazaret_heads_steps)] }
def HeadsBodySaid : Prop := headsBodyRow.holds Tryz.pinned (OpenSpec.ofChange headsBodySpec)

/-- ITS FALSE NEIGHBOUR: 'it returns false'. Refute it at one input. -/
def headsBodyWrong : ChangeSpec := { name := "headsBody", fn := fun _ => fun
  | [d] => { results := [.lit (.bool false)], args := [d] }
  | _ => none }
def HeadsBodyWrongFalsely : Prop := headsBodyRow.holds Tryz.pinned (OpenSpec.ofChange headsBodyWrong)

/-- 'lazaretlaw19.HeadsPlay': WHATEVER THE INPUT: true; the input reads as it did. -/
def headsPlaySpec : ChangeSpec := { name := "headsPlay", fn := fun _ => fun
  | [d] => { results := [.lit (.bool true)], args := [d] }
  | _ => none }
def headsPlayRow : OpenClaim := { program := "ytjmlkmlbhfkhbaagreatdoor", sum := "94e5a242833977cda241f3dbcb06dfea2e508c949d3c94ab7a2cee64f2366576", func := "lazaret/lazaretlaw19.HeadsPlay", spec := "headsPlay", inPlace := ["slices.overlaps[lazaret/stack.open]", "slices.overlaps[int]", "internal/bytealg.IndexByteString", "internal/bytealg.IndexString", "internal/reflectlite.ValueOf", "(internal/reflectlite.Value).Type", "(internal/reflectlite.Value).IsNil", "internal/reflectlite.TypeOf", "(internal/reflectlite.Value).Elem", "(internal/reflectlite.Value).Set"], unfollowed := true, recurses := true, named := ["lazaret/heads.steps", "internal/bytealg.MaxLen", "lazaret/builder.by", "errors.errorType"], apart := false, laid := [("errors.errorType", laid_errors_errorType), ("lazaret/builder.by", laid_lazaret_builder_by), ("lazaret/heads.steps", laid_lazaret_heads_steps)] }
def HeadsPlaySaid : Prop := headsPlayRow.holds Tryz.pinned (OpenSpec.ofChange headsPlaySpec)

/-- ITS FALSE NEIGHBOUR: 'it returns false'. Refute it at one input. -/
def headsPlayWrong : ChangeSpec := { name := "headsPlay", fn := fun _ => fun
  | [d] => { results := [.lit (.bool false)], args := [d] }
  | _ => none }
def HeadsPlayWrongFalsely : Prop := headsPlayRow.holds Tryz.pinned (OpenSpec.ofChange headsPlayWrong)

/- THE SECOND FORM. 'bulk': how many values and letters a reading holds, each counted each time it is reached (what is shared counts as often as it is met; a slice's spare places count too). A statement '..UptoSaid' is the law's where the arguments, and the package variables that the reading takes, are together of bulk at most 1048576: NARROWER than '..Said'. Prove '..Said' where nothing that the law and all that it calls make is longer than what came in: it says more and counts as full. Else prove '..UptoSaid'. A law counts once. -/
mutual
def uptoBulk {H : Type} : DataW H → Nat
  | .lit (.string bytes) => bytes.length + 1
  | .lit _ => 1
  | .nil => 1
  | .ptr d => uptoBulk d + 1
  | .slice elems spare => uptoBulkAll elems + uptoBulkAll spare + 1
  | .agg parts => uptoBulkAll parts + 1
  | .iface _ d => uptoBulk d + 1
  | .map entries => uptoBulkEntries entries + 1
  | .held _ => 1
def uptoBulkAll {H : Type} : List (DataW H) → Nat
  | [] => 0
  | d :: r => uptoBulk d + uptoBulkAll r
def uptoBulkEntries {H : Type} : List (Lit × DataW H) → Nat
  | [] => 0
  | x :: r => uptoBulkEntry x + uptoBulkEntries r
def uptoBulkEntry {H : Type} : Lit × DataW H → Nat
  | (.string bytes, d) => bytes.length + uptoBulk d + 1
  | (_, d) => uptoBulk d + 1
 end
def uptoSmall : (H : Type) → List (DataW H) → Bool := fun _ ds => decide (uptoBulkAll ds ≤ 1048576)
def OpenSpec.upto (s : _root_.Go.ChangeSpec) : _root_.Go.OpenSpec := { _root_.Go.OpenSpec.ofChange s with cond := some uptoSmall }

/-- 'lazaretlaw17.BuilderNone', WHERE WHAT IT READS IS OF BULK AT MOST 1048576: true; the input reads as it did. -/
def builderNoneUptoRow : OpenClaim := { program := "ytjmlkmlbhfkhbaagreatdoor", sum := "94e5a242833977cda241f3dbcb06dfea2e508c949d3c94ab7a2cee64f2366576", func := "lazaret/lazaretlaw17.BuilderNone", spec := "builderNone", inPlace := ["slices.overlaps[lazaret/stack.open]", "slices.overlaps[int]", "internal/reflectlite.ValueOf", "(internal/reflectlite.Value).Type", "(internal/reflectlite.Value).IsNil", "internal/reflectlite.TypeOf", "(internal/reflectlite.Value).Elem", "(internal/reflectlite.Value).Set", "internal/bytealg.IndexByteString", "internal/bytealg.IndexString"], unfollowed := true, recurses := true, named := ["lazaret/builder.by", "errors.errorType", "lazaret/kinds.scopes", "internal/bytealg.MaxLen"], apart := false, laid := [("errors.errorType", laid_errors_errorType), ("lazaret/kinds.scopes", laid_lazaret_kinds_scopes), ("lazaret/builder.by", laid_lazaret_builder_by)], narrowed := true }
def BuilderNoneUptoSaid : Prop := builderNoneUptoRow.holds Tryz.pinned (OpenSpec.upto builderNoneSpec)

/-- 'lazaretlaw19.HeadsBody', WHERE WHAT IT READS IS OF BULK AT MOST 1048576: true; the input reads as it did. -/
def headsBodyUptoRow : OpenClaim := { program := "ytjmlkmlbhfkhbaagreatdoor", sum := "94e5a242833977cda241f3dbcb06dfea2e508c949d3c94ab7a2cee64f2366576", func := "lazaret/lazaretlaw19.HeadsBody", spec := "headsBody", inPlace := ["slices.overlaps[lazaret/stack.open]", "slices.overlaps[int]", "internal/bytealg.IndexByteString", "internal/bytealg.IndexString", "internal/reflectlite.ValueOf", "(internal/reflectlite.Value).Type", "(internal/reflectlite.Value).IsNil", "internal/reflectlite.TypeOf", "(internal/reflectlite.Value).Elem", "(internal/reflectlite.Value).Set"], unfollowed := true, recurses := true, named := ["lazaret/heads.steps", "internal/bytealg.MaxLen", "lazaret/builder.by", "errors.errorType"], apart := false, laid := [("errors.errorType", laid_errors_errorType), ("lazaret/builder.by", laid_lazaret_builder_by), ("lazaret/heads.steps", laid_lazaret_heads_steps)], narrowed := true }
def HeadsBodyUptoSaid : Prop := headsBodyUptoRow.holds Tryz.pinned (OpenSpec.upto headsBodySpec)

/-- 'lazaretlaw19.HeadsPlay', WHERE WHAT IT READS IS OF BULK AT MOST 1048576: true; the input reads as it did. -/
def headsPlayUptoRow : OpenClaim := { program := "ytjmlkmlbhfkhbaagreatdoor", sum := "94e5a242833977cda241f3dbcb06dfea2e508c949d3c94ab7a2cee64f2366576", func := "lazaret/lazaretlaw19.HeadsPlay", spec := "headsPlay", inPlace := ["slices.overlaps[lazaret/stack.open]", "slices.overlaps[int]", "internal/bytealg.IndexByteString", "internal/bytealg.IndexString", "internal/reflectlite.ValueOf", "(internal/reflectlite.Value).Type", "(internal/reflectlite.Value).IsNil", "internal/reflectlite.TypeOf", "(internal/reflectlite.Value).Elem", "(internal/reflectlite.Value).Set"], unfollowed := true, recurses := true, named := ["lazaret/heads.steps", "internal/bytealg.MaxLen", "lazaret/builder.by", "errors.errorType"], apart := false, laid := [("errors.errorType", laid_errors_errorType), ("lazaret/builder.by", laid_lazaret_builder_by), ("lazaret/heads.steps", laid_lazaret_heads_steps)], narrowed := true }
def HeadsPlayUptoSaid : Prop := headsPlayUptoRow.holds Tryz.pinned (OpenSpec.upto headsPlaySpec)

end Rows
end Go.Proofs.YtjmlkmlbhfkhbaaGreatDoor
