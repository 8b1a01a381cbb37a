/-
  What fairPrio counts, plain.
-/
import Derived.Test.YgdapgJ1
import Derived.Test.YgdapgP4
set_option linter.unusedSimpArgs false
set_option linter.unusedVariables false
namespace Go.Proofs.Ygdapg
open Go.RowKit

/-- How many of the first n have this priority. -/
def cntE (pr : Nat → Int) (lv : Int) : Nat → Nat
  | 0 => 0
  | n + 1 => cntE pr lv n + (if pr n = lv then 1 else 0)
theorem cntE_le (pr : Nat → Int) (lv : Int) : ∀ n, cntE pr lv n ≤ n
  | 0 => Nat.le_refl _
  | n + 1 => by have := cntE_le pr lv n; unfold cntE; split <;> omega

/-- What fairPrio counts for q. -/
def wsp (m : Mo) (pr : Nat → Int) (z : Int) (q : Nat) : Int :=
  if (q : Int) = m.p ∨ (m.kd = 7 ∧ m.a = (q : Int)) then (if m.st q = 0 then 0 else -1)
  else if 0 ≤ z then (if pr q = pr m.p.toNat then z + 1 else z) else if m.st q = 0 then 0 else -1
def wp (ms : List Mo) (pr : Nat → Int) : Nat → Nat → Int
  | 0, _ => -1
  | i + 1, q => match ms[i]? with
    | some m => wsp m pr (wp ms pr i q) q
    | none => wp ms pr i q
theorem wp_succ {ms : List Mo} {pr : Nat → Int} {i : Nat} {m : Mo} (h : ms[i]? = some m) (q : Nat) : wp ms pr (i + 1) q = wsp m pr (wp ms pr i q) q := by
  simp [wp, h]
def FairPrioOk (N : Nat) (pr : Nat → Int) (ms : List Mo) : Prop := (∀ i, i ≤ ms.length → ∀ q, q < N → -1 ≤ wp ms pr i q ∧ wp ms pr i q < (cntE pr (pr q) N : Int)) ∧ ∀ (i : Nat) (m : Mo), ms[i]? = some m → ∃ p : Nat, p < N ∧ m.p = (p : Int)
end Go.Proofs.Ygdapg
