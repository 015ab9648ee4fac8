/-
  No cell of these rows narrows 'for every input' (looked for: loops, veiled, ifaces, maps, wideKeys, modest, calm, conditions, laid).
  DERIVED. THE GIVEN ROWS OF THIS SEAT. 4 by the template 'for every input the law returns true; each argument reads behind the call as it read before'; 0 by the template 'total and deterministic' (their statements: YtmaaekahkeibnaaTotals.lean).
  GIVEN WITH THE SEED: the statements are not yours to turn. If you find one false, say at which input.
  Laid BY PROGRAM, IN A SANDBOX (cutbox-rows.mjs): the forced cells as the released guide's own fill.sh prints them over the translation 3b6ce74fb9f1e890… (all of the seat's roots in one cut). By AI agents, Wed Nov 11 2026. No macro, syntax, notation, axiom, sorry.
-/
import Derived.Test.YtmaaekahkeibnaaChecked
import GoSem.Claim
import GoSem.ClaimJoined
import GoSem.ClaimMapViews
import Derived.JoinedTies
import Derived.KernelRfl
namespace Go.Proofs.Ytmaaekahkeibnaa
/- THE CELL 'sum', in the pinned program and in every row, IS THE sha256 OF THE DUMP (.gsa) THAT YtmaaekahkeibnaaProg.lean LOADS. Nothing in Lean hashes anything: it is a label: what it is worth is what the hold of that sum in a sandbox is worth. -/
noncomputable def Try.pinned : Pinned := { name := "ytmaaekahkeibnaa", sum := "3b6ce74fb9f1e890f647884dd596123d4e31e90e373bced83b6926206cd718eb", checked := Try.checked }
namespace Rows
def none {H : Type} : Left H := { results := [], args := [] }

/-- 'deedboxlaw26.RulePicks': WHATEVER THE INPUT: true; the input reads as it did. -/
def rulePicksSpec : ChangeSpec := { name := "rulePicks", fn := fun _ => fun
  | [d1, d2, d3, d4, d5, d6] => { results := [.lit (.bool true)], args := [d1, d2, d3, d4, d5, d6] }
  | _ => none }
def rulePicksRow : OpenClaim := { program := "ytmaaekahkeibnaa", sum := "3b6ce74fb9f1e890f647884dd596123d4e31e90e373bced83b6926206cd718eb", func := "deedbox/deedboxlaw26.RulePicks", spec := "rulePicks", unfollowed := true, recurses := true, apart := false }
def RulePicksSaid : Prop := rulePicksRow.holds Try.pinned (OpenSpec.ofChange rulePicksSpec)

/-- ITS FALSE NEIGHBOUR: 'it returns false'. Refute it at one input. -/
def rulePicksWrong : ChangeSpec := { name := "rulePicks", fn := fun _ => fun
  | [d1, d2, d3, d4, d5, d6] => { results := [.lit (.bool false)], args := [d1, d2, d3, d4, d5, d6] }
  | _ => none }
def RulePicksWrongFalsely : Prop := rulePicksRow.holds Try.pinned (OpenSpec.ofChange rulePicksWrong)

/-- 'deedboxlaw26.RuleOn': WHATEVER THE INPUT: true; the input reads as it did. -/
def ruleOnSpec : ChangeSpec := { name := "ruleOn", fn := fun _ => fun
  | [d1, d2] => { results := [.lit (.bool true)], args := [d1, d2] }
  | _ => none }
def ruleOnRow : OpenClaim := { program := "ytmaaekahkeibnaa", sum := "3b6ce74fb9f1e890f647884dd596123d4e31e90e373bced83b6926206cd718eb", func := "deedbox/deedboxlaw26.RuleOn", spec := "ruleOn", unfollowed := true, recurses := true, apart := false }
def RuleOnSaid : Prop := ruleOnRow.holds Try.pinned (OpenSpec.ofChange ruleOnSpec)

/-- ITS FALSE NEIGHBOUR: 'it returns false'. Refute it at one input. -/
def ruleOnWrong : ChangeSpec := { name := "ruleOn", fn := fun _ => fun
  | [d1, d2] => { results := [.lit (.bool false)], args := [d1, d2] }
  | _ => none }
def RuleOnWrongFalsely : Prop := ruleOnRow.holds Try.pinned (OpenSpec.ofChange ruleOnWrong)

/-- 'deedboxlaw26.RuleDoes': WHATEVER THE INPUT: true; the input reads as it did. -/
def ruleDoesSpec : ChangeSpec := { name := "ruleDoes", fn := fun _ => fun
  | [d1, d2, d3, d4] => { results := [.lit (.bool true)], args := [d1, d2, d3, d4] }
  | _ => none }
def ruleDoesRow : OpenClaim := { program := "ytmaaekahkeibnaa", sum := "3b6ce74fb9f1e890f647884dd596123d4e31e90e373bced83b6926206cd718eb", func := "deedbox/deedboxlaw26.RuleDoes", spec := "ruleDoes", unfollowed := true, recurses := true, apart := false }
def RuleDoesSaid : Prop := ruleDoesRow.holds Try.pinned (OpenSpec.ofChange ruleDoesSpec)

/-- ITS FALSE NEIGHBOUR: 'it returns false'. Refute it at one input. -/
def ruleDoesWrong : ChangeSpec := { name := "ruleDoes", fn := fun _ => fun
  | [d1, d2, d3, d4] => { results := [.lit (.bool false)], args := [d1, d2, d3, d4] }
  | _ => none }
def RuleDoesWrongFalsely : Prop := ruleDoesRow.holds Try.pinned (OpenSpec.ofChange ruleDoesWrong)

/-- 'deedboxlaw26.RuleKeeps': WHATEVER THE INPUT: true; the input reads as it did. -/
def ruleKeepsSpec : ChangeSpec := { name := "ruleKeeps", fn := fun _ => fun
  | [d1, d2, d3, d4] => { results := [.lit (.bool true)], args := [d1, d2, d3, d4] }
  | _ => none }
def ruleKeepsRow : OpenClaim := { program := "ytmaaekahkeibnaa", sum := "3b6ce74fb9f1e890f647884dd596123d4e31e90e373bced83b6926206cd718eb", func := "deedbox/deedboxlaw26.RuleKeeps", spec := "ruleKeeps", unfollowed := true, recurses := true, apart := false }
def RuleKeepsSaid : Prop := ruleKeepsRow.holds Try.pinned (OpenSpec.ofChange ruleKeepsSpec)

/-- ITS FALSE NEIGHBOUR: 'it returns false'. Refute it at one input. -/
def ruleKeepsWrong : ChangeSpec := { name := "ruleKeeps", fn := fun _ => fun
  | [d1, d2, d3, d4] => { results := [.lit (.bool false)], args := [d1, d2, d3, d4] }
  | _ => none }
def RuleKeepsWrongFalsely : Prop := ruleKeepsRow.holds Try.pinned (OpenSpec.ofChange ruleKeepsWrong)

/- THE SECOND FORM. 'bulk': how many values and letters a reading holds, each counted each time it is reached (what is shared counts as often as it is met; a slice's spare places count too). A statement '..UptoSaid' is the law's where the arguments, and the package variables that the reading takes, are together of bulk at most 1048576: NARROWER than '..Said'. Prove '..Said' where nothing that the law and all that it calls make is longer than what came in: it says more and counts as full. Else prove '..UptoSaid'. A law counts once. -/
mutual
def uptoBulk {H : Type} : DataW H → Nat
  | .lit (.string bytes) => bytes.length + 1
  | .lit _ => 1
  | .nil => 1
  | .ptr d => uptoBulk d + 1
  | .slice elems spare => uptoBulkAll elems + uptoBulkAll spare + 1
  | .agg parts => uptoBulkAll parts + 1
  | .iface _ d => uptoBulk d + 1
  | .map entries => uptoBulkEntries entries + 1
  | .held _ => 1
def uptoBulkAll {H : Type} : List (DataW H) → Nat
  | [] => 0
  | d :: r => uptoBulk d + uptoBulkAll r
def uptoBulkEntries {H : Type} : List (Lit × DataW H) → Nat
  | [] => 0
  | x :: r => uptoBulkEntry x + uptoBulkEntries r
def uptoBulkEntry {H : Type} : Lit × DataW H → Nat
  | (.string bytes, d) => bytes.length + uptoBulk d + 1
  | (_, d) => uptoBulk d + 1
 end
def uptoSmall : (H : Type) → List (DataW H) → Bool := fun _ ds => decide (uptoBulkAll ds ≤ 1048576)
def OpenSpec.upto (s : _root_.Go.ChangeSpec) : _root_.Go.OpenSpec := { _root_.Go.OpenSpec.ofChange s with cond := some uptoSmall }

/-- 'deedboxlaw26.RulePicks', WHERE WHAT IT READS IS OF BULK AT MOST 1048576: true; the input reads as it did. -/
def rulePicksUptoRow : OpenClaim := { program := "ytmaaekahkeibnaa", sum := "3b6ce74fb9f1e890f647884dd596123d4e31e90e373bced83b6926206cd718eb", func := "deedbox/deedboxlaw26.RulePicks", spec := "rulePicks", unfollowed := true, recurses := true, apart := false, narrowed := true }
def RulePicksUptoSaid : Prop := rulePicksUptoRow.holds Try.pinned (OpenSpec.upto rulePicksSpec)

/-- 'deedboxlaw26.RuleOn', WHERE WHAT IT READS IS OF BULK AT MOST 1048576: true; the input reads as it did. -/
def ruleOnUptoRow : OpenClaim := { program := "ytmaaekahkeibnaa", sum := "3b6ce74fb9f1e890f647884dd596123d4e31e90e373bced83b6926206cd718eb", func := "deedbox/deedboxlaw26.RuleOn", spec := "ruleOn", unfollowed := true, recurses := true, apart := false, narrowed := true }
def RuleOnUptoSaid : Prop := ruleOnUptoRow.holds Try.pinned (OpenSpec.upto ruleOnSpec)

/-- 'deedboxlaw26.RuleDoes', WHERE WHAT IT READS IS OF BULK AT MOST 1048576: true; the input reads as it did. -/
def ruleDoesUptoRow : OpenClaim := { program := "ytmaaekahkeibnaa", sum := "3b6ce74fb9f1e890f647884dd596123d4e31e90e373bced83b6926206cd718eb", func := "deedbox/deedboxlaw26.RuleDoes", spec := "ruleDoes", unfollowed := true, recurses := true, apart := false, narrowed := true }
def RuleDoesUptoSaid : Prop := ruleDoesUptoRow.holds Try.pinned (OpenSpec.upto ruleDoesSpec)

/-- 'deedboxlaw26.RuleKeeps', WHERE WHAT IT READS IS OF BULK AT MOST 1048576: true; the input reads as it did. -/
def ruleKeepsUptoRow : OpenClaim := { program := "ytmaaekahkeibnaa", sum := "3b6ce74fb9f1e890f647884dd596123d4e31e90e373bced83b6926206cd718eb", func := "deedbox/deedboxlaw26.RuleKeeps", spec := "ruleKeeps", unfollowed := true, recurses := true, apart := false, narrowed := true }
def RuleKeepsUptoSaid : Prop := ruleKeepsUptoRow.holds Try.pinned (OpenSpec.upto ruleKeepsSpec)

end Rows
end Go.Proofs.Ytmaaekahkeibnaa
