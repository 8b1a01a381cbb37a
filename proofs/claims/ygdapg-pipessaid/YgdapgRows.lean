/-
  No cell of these rows narrows 'for every input' (looked for: loops, veiled, ifaces, maps, wideKeys, modest, calm, conditions, laid).
  DERIVED. THE GIVEN ROWS OF THIS SEAT. 12 by the template 'for every input the law returns true; each argument reads behind the call as it read before'; 0 by the template 'total and deterministic' (their statements: YgdapgTotals.lean).
  GIVEN WITH THE SEED: the statements are not yours to turn. If you find one false, say at which input.
  Laid BY PROGRAM, IN A SANDBOX (cutbox-rows.mjs): the forced cells as the released guide's own fill.sh prints them over the translation f495562add1a687b… (all of the seat's roots in one cut). By AI agents, Wed Nov 11 2026. No macro, syntax, notation, axiom, sorry.
-/
import Derived.Test.YgdapgChecked
import GoSem.Claim
import GoSem.ClaimJoined
import GoSem.ClaimMapViews
import Derived.JoinedTies
import Derived.KernelRfl
namespace Go.Proofs.Ygdapg
/- THE CELL 'sum', in the pinned program and in every row, IS THE sha256 OF THE DUMP (.gsa) THAT YgdapgProg.lean LOADS. Nothing in Lean hashes anything: it is a label: what it is worth is what the hold of that sum in a sandbox is worth. -/
noncomputable def Yapd.pinned : Pinned := { name := "ygdapg", sum := "f495562add1a687b5a97907ab7c2d47015e9d640a5de0263c4188ee1e263ed02", checked := Yapd.checked }
namespace Rows
def none {H : Type} : Left H := { results := [], args := [] }

/-- 'law.Refines': WHATEVER THE INPUT: true; the input reads as it did. -/
def refinesSpec : ChangeSpec := { name := "refines", fn := fun _ => fun
  | [d1, d2] => { results := [.lit (.bool true)], args := [d1, d2] }
  | _ => none }
def refinesRow : OpenClaim := { program := "ygdapg", sum := "f495562add1a687b5a97907ab7c2d47015e9d640a5de0263c4188ee1e263ed02", func := "ksched/law.Refines", spec := "refines", apart := false }
def RefinesSaid : Prop := refinesRow.holds Yapd.pinned (OpenSpec.ofChange refinesSpec)

/-- ITS FALSE NEIGHBOUR: 'it returns false'. Refute it at one input. -/
def refinesWrong : ChangeSpec := { name := "refines", fn := fun _ => fun
  | [d1, d2] => { results := [.lit (.bool false)], args := [d1, d2] }
  | _ => none }
def RefinesWrongFalsely : Prop := refinesRow.holds Yapd.pinned (OpenSpec.ofChange refinesWrong)

/-- 'law.Keeps': WHATEVER THE INPUT: true; the input reads as it did. -/
def keepsSpec : ChangeSpec := { name := "keeps", fn := fun _ => fun
  | [d1, d2] => { results := [.lit (.bool true)], args := [d1, d2] }
  | _ => none }
def keepsRow : OpenClaim := { program := "ygdapg", sum := "f495562add1a687b5a97907ab7c2d47015e9d640a5de0263c4188ee1e263ed02", func := "ksched/law.Keeps", spec := "keeps", apart := false }
def KeepsSaid : Prop := keepsRow.holds Yapd.pinned (OpenSpec.ofChange keepsSpec)

/-- ITS FALSE NEIGHBOUR: 'it returns false'. Refute it at one input. -/
def keepsWrong : ChangeSpec := { name := "keeps", fn := fun _ => fun
  | [d1, d2] => { results := [.lit (.bool false)], args := [d1, d2] }
  | _ => none }
def KeepsWrongFalsely : Prop := keepsRow.holds Yapd.pinned (OpenSpec.ofChange keepsWrong)

/-- 'law.Fair': WHATEVER THE INPUT: true; the input reads as it did. -/
def fairSpec : ChangeSpec := { name := "fair", fn := fun _ => fun
  | [d1, d2] => { results := [.lit (.bool true)], args := [d1, d2] }
  | _ => none }
def fairRow : OpenClaim := { program := "ygdapg", sum := "f495562add1a687b5a97907ab7c2d47015e9d640a5de0263c4188ee1e263ed02", func := "ksched/law.Fair", spec := "fair", apart := false }
def FairSaid : Prop := fairRow.holds Yapd.pinned (OpenSpec.ofChange fairSpec)

/-- ITS FALSE NEIGHBOUR: 'it returns false'. Refute it at one input. -/
def fairWrong : ChangeSpec := { name := "fair", fn := fun _ => fun
  | [d1, d2] => { results := [.lit (.bool false)], args := [d1, d2] }
  | _ => none }
def FairWrongFalsely : Prop := fairRow.holds Yapd.pinned (OpenSpec.ofChange fairWrong)

/-- 'law.NoLostWakeup': WHATEVER THE INPUT: true; the input reads as it did. -/
def noLostWakeupSpec : ChangeSpec := { name := "noLostWakeup", fn := fun _ => fun
  | [d1, d2] => { results := [.lit (.bool true)], args := [d1, d2] }
  | _ => none }
def noLostWakeupRow : OpenClaim := { program := "ygdapg", sum := "f495562add1a687b5a97907ab7c2d47015e9d640a5de0263c4188ee1e263ed02", func := "ksched/law.NoLostWakeup", spec := "noLostWakeup", apart := false }
def NoLostWakeupSaid : Prop := noLostWakeupRow.holds Yapd.pinned (OpenSpec.ofChange noLostWakeupSpec)

/-- ITS FALSE NEIGHBOUR: 'it returns false'. Refute it at one input. -/
def noLostWakeupWrong : ChangeSpec := { name := "noLostWakeup", fn := fun _ => fun
  | [d1, d2] => { results := [.lit (.bool false)], args := [d1, d2] }
  | _ => none }
def NoLostWakeupWrongFalsely : Prop := noLostWakeupRow.holds Yapd.pinned (OpenSpec.ofChange noLostWakeupWrong)

/-- 'law.Ends': WHATEVER THE INPUT: true; the input reads as it did. -/
def endsSpec : ChangeSpec := { name := "ends", fn := fun _ => fun
  | [d1, d2] => { results := [.lit (.bool true)], args := [d1, d2] }
  | _ => none }
def endsRow : OpenClaim := { program := "ygdapg", sum := "f495562add1a687b5a97907ab7c2d47015e9d640a5de0263c4188ee1e263ed02", func := "ksched/law.Ends", spec := "ends", apart := false }
def EndsSaid : Prop := endsRow.holds Yapd.pinned (OpenSpec.ofChange endsSpec)

/-- ITS FALSE NEIGHBOUR: 'it returns false'. Refute it at one input. -/
def endsWrong : ChangeSpec := { name := "ends", fn := fun _ => fun
  | [d1, d2] => { results := [.lit (.bool false)], args := [d1, d2] }
  | _ => none }
def EndsWrongFalsely : Prop := endsRow.holds Yapd.pinned (OpenSpec.ofChange endsWrong)

/-- 'law.Kills': WHATEVER THE INPUT: true; the input reads as it did. -/
def killsSpec : ChangeSpec := { name := "kills", fn := fun _ => fun
  | [d1, d2] => { results := [.lit (.bool true)], args := [d1, d2] }
  | _ => none }
def killsRow : OpenClaim := { program := "ygdapg", sum := "f495562add1a687b5a97907ab7c2d47015e9d640a5de0263c4188ee1e263ed02", func := "ksched/law.Kills", spec := "kills", apart := false }
def KillsSaid : Prop := killsRow.holds Yapd.pinned (OpenSpec.ofChange killsSpec)

/-- ITS FALSE NEIGHBOUR: 'it returns false'. Refute it at one input. -/
def killsWrong : ChangeSpec := { name := "kills", fn := fun _ => fun
  | [d1, d2] => { results := [.lit (.bool false)], args := [d1, d2] }
  | _ => none }
def KillsWrongFalsely : Prop := killsRow.holds Yapd.pinned (OpenSpec.ofChange killsWrong)

/-- 'law.Waits': WHATEVER THE INPUT: true; the input reads as it did. -/
def waitsSpec : ChangeSpec := { name := "waits", fn := fun _ => fun
  | [d1, d2] => { results := [.lit (.bool true)], args := [d1, d2] }
  | _ => none }
def waitsRow : OpenClaim := { program := "ygdapg", sum := "f495562add1a687b5a97907ab7c2d47015e9d640a5de0263c4188ee1e263ed02", func := "ksched/law.Waits", spec := "waits", apart := false }
def WaitsSaid : Prop := waitsRow.holds Yapd.pinned (OpenSpec.ofChange waitsSpec)

/-- ITS FALSE NEIGHBOUR: 'it returns false'. Refute it at one input. -/
def waitsWrong : ChangeSpec := { name := "waits", fn := fun _ => fun
  | [d1, d2] => { results := [.lit (.bool false)], args := [d1, d2] }
  | _ => none }
def WaitsWrongFalsely : Prop := waitsRow.holds Yapd.pinned (OpenSpec.ofChange waitsWrong)

/-- 'law.Pipes': WHATEVER THE INPUT: true; the input reads as it did. -/
def pipesSpec : ChangeSpec := { name := "pipes", fn := fun _ => fun
  | [d1, d2] => { results := [.lit (.bool true)], args := [d1, d2] }
  | _ => none }
def pipesRow : OpenClaim := { program := "ygdapg", sum := "f495562add1a687b5a97907ab7c2d47015e9d640a5de0263c4188ee1e263ed02", func := "ksched/law.Pipes", spec := "pipes", apart := false }
def PipesSaid : Prop := pipesRow.holds Yapd.pinned (OpenSpec.ofChange pipesSpec)

/-- ITS FALSE NEIGHBOUR: 'it returns false'. Refute it at one input. -/
def pipesWrong : ChangeSpec := { name := "pipes", fn := fun _ => fun
  | [d1, d2] => { results := [.lit (.bool false)], args := [d1, d2] }
  | _ => none }
def PipesWrongFalsely : Prop := pipesRow.holds Yapd.pinned (OpenSpec.ofChange pipesWrong)

/-- 'law.RefinesPrio': WHATEVER THE INPUT: true; the input reads as it did. -/
def refinesPrioSpec : ChangeSpec := { name := "refinesPrio", fn := fun _ => fun
  | [d1, d2, d3] => { results := [.lit (.bool true)], args := [d1, d2, d3] }
  | _ => none }
def refinesPrioRow : OpenClaim := { program := "ygdapg", sum := "f495562add1a687b5a97907ab7c2d47015e9d640a5de0263c4188ee1e263ed02", func := "ksched/law.RefinesPrio", spec := "refinesPrio", apart := false }
def RefinesPrioSaid : Prop := refinesPrioRow.holds Yapd.pinned (OpenSpec.ofChange refinesPrioSpec)

/-- ITS FALSE NEIGHBOUR: 'it returns false'. Refute it at one input. -/
def refinesPrioWrong : ChangeSpec := { name := "refinesPrio", fn := fun _ => fun
  | [d1, d2, d3] => { results := [.lit (.bool false)], args := [d1, d2, d3] }
  | _ => none }
def RefinesPrioWrongFalsely : Prop := refinesPrioRow.holds Yapd.pinned (OpenSpec.ofChange refinesPrioWrong)

/-- 'law.KeepsPrio': WHATEVER THE INPUT: true; the input reads as it did. -/
def keepsPrioSpec : ChangeSpec := { name := "keepsPrio", fn := fun _ => fun
  | [d1, d2, d3] => { results := [.lit (.bool true)], args := [d1, d2, d3] }
  | _ => none }
def keepsPrioRow : OpenClaim := { program := "ygdapg", sum := "f495562add1a687b5a97907ab7c2d47015e9d640a5de0263c4188ee1e263ed02", func := "ksched/law.KeepsPrio", spec := "keepsPrio", apart := false }
def KeepsPrioSaid : Prop := keepsPrioRow.holds Yapd.pinned (OpenSpec.ofChange keepsPrioSpec)

/-- ITS FALSE NEIGHBOUR: 'it returns false'. Refute it at one input. -/
def keepsPrioWrong : ChangeSpec := { name := "keepsPrio", fn := fun _ => fun
  | [d1, d2, d3] => { results := [.lit (.bool false)], args := [d1, d2, d3] }
  | _ => none }
def KeepsPrioWrongFalsely : Prop := keepsPrioRow.holds Yapd.pinned (OpenSpec.ofChange keepsPrioWrong)

/-- 'law.NeverPassedOver': WHATEVER THE INPUT: true; the input reads as it did. -/
def neverPassedOverSpec : ChangeSpec := { name := "neverPassedOver", fn := fun _ => fun
  | [d1, d2, d3] => { results := [.lit (.bool true)], args := [d1, d2, d3] }
  | _ => none }
def neverPassedOverRow : OpenClaim := { program := "ygdapg", sum := "f495562add1a687b5a97907ab7c2d47015e9d640a5de0263c4188ee1e263ed02", func := "ksched/law.NeverPassedOver", spec := "neverPassedOver", apart := false }
def NeverPassedOverSaid : Prop := neverPassedOverRow.holds Yapd.pinned (OpenSpec.ofChange neverPassedOverSpec)

/-- ITS FALSE NEIGHBOUR: 'it returns false'. Refute it at one input. -/
def neverPassedOverWrong : ChangeSpec := { name := "neverPassedOver", fn := fun _ => fun
  | [d1, d2, d3] => { results := [.lit (.bool false)], args := [d1, d2, d3] }
  | _ => none }
def NeverPassedOverWrongFalsely : Prop := neverPassedOverRow.holds Yapd.pinned (OpenSpec.ofChange neverPassedOverWrong)

/-- 'law.FairPrio': WHATEVER THE INPUT: true; the input reads as it did. -/
def fairPrioSpec : ChangeSpec := { name := "fairPrio", fn := fun _ => fun
  | [d1, d2, d3] => { results := [.lit (.bool true)], args := [d1, d2, d3] }
  | _ => none }
def fairPrioRow : OpenClaim := { program := "ygdapg", sum := "f495562add1a687b5a97907ab7c2d47015e9d640a5de0263c4188ee1e263ed02", func := "ksched/law.FairPrio", spec := "fairPrio", apart := false }
def FairPrioSaid : Prop := fairPrioRow.holds Yapd.pinned (OpenSpec.ofChange fairPrioSpec)

/-- ITS FALSE NEIGHBOUR: 'it returns false'. Refute it at one input. -/
def fairPrioWrong : ChangeSpec := { name := "fairPrio", fn := fun _ => fun
  | [d1, d2, d3] => { results := [.lit (.bool false)], args := [d1, d2, d3] }
  | _ => none }
def FairPrioWrongFalsely : Prop := fairPrioRow.holds Yapd.pinned (OpenSpec.ofChange fairPrioWrong)

end Rows
end Go.Proofs.Ygdapg
