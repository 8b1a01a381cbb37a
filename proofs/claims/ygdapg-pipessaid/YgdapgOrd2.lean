/-
  REGIONS STEP BY STEP: more operations.
-/
import Derived.Test.YgdapgOrd
set_option linter.unusedSimpArgs false
set_option linter.unusedVariables false
namespace Go.Proofs.Ygdapg
open Go.RowKit

section
variable {P : Program} {ops : Array Oper} {Q : Exit → Act → World → Prop} {md : Region.Mode} {S : World → Prop} {T : List Nat}
/-- Operation i is not wanted: its guard says no. -/
theorem wpAnyS_skip (i : Nat) {oi : Oper} {rest : List Oper} {fuel : Nat} {listed : Array Bool} {a : Act} {w : World} (hi : ops.toList.drop i = oi :: rest) (hT : T.contains i = true)
    (hs : Region.noSelect ops = true) (hf : Region.free md ops listed i = true) (hr : (Region.ready md ops listed).contains i = true)
    (hQ : ∀ c a w, Q (.panic c) (a.put oi.dst undef) w → Q (.panic c) a w) (hg : Region.wanted oi (yielded ops a.tmps) = false) (hS : S w)
    (h : wpAnyS P md ops Q S T fuel (listed.setIfInBounds i true) (a.put oi.dst undef) w) : wpAnyS P md ops Q S T (fuel + 1) listed a w :=
  wpAnyS_first (at_of_drop hi) (by simpa using hT) (Region.noSelect_spec hs) hQ fuel listed a w (Region.free_spec (at_of_drop hi) hf) (by simpa using hr) (.inr ⟨hg, rfl⟩) hS h
/-- The same where it is the only one that may come up. -/
theorem wpAnyS_oneSkip (i : Nat) {oi : Oper} {rest : List Oper} {fuel : Nat} {listed : Array Bool} {a : Act} {w : World} (hi : ops.toList.drop i = oi :: rest) (hr : Region.ready md ops listed = [i]) (hg : Region.wanted oi (yielded ops a.tmps) = false)
    (h : (lateB md ops T i = true ∨ S w) ∧ wpAnyS P md ops Q S T fuel (listed.setIfInBounds i true) (a.put oi.dst undef) w) : wpAnyS P md ops Q S T (fuel + 1) listed a w := by
  refine ⟨fun e => by rw [hr] at e; simp at e, fun j hj => ?_⟩
  rw [hr] at hj
  obtain rfl : j = i := by simpa using hj
  unfold wpOp
  simp only [at_of_drop hi]
  rw [if_neg (by rw [hg]; simp)]
  exact h
end

section
variable {o : Oper} {a : Act} {W : World} {x y : Operand} {m n : Int} {b : Bool}
theorem run_eql3 (ho : o.op = .binOp .eql 3 x y 3) (hx : a.eval x = .int .i64 m) (hy : a.eval y = .int .i64 n) (hb : (m == n) = b) : (execOp a.eval o).run Yapd.prog W = .ok (.value (.bool b)) W := by
  subst hb; simp only [execOp, ho, hx, hy]; simp [go_sem, Yapd.underlying3]
theorem run_neq3 (ho : o.op = .binOp .neq 3 x y 3) (hx : a.eval x = .int .i64 m) (hy : a.eval y = .int .i64 n) (hb : (m != n) = b) : (execOp a.eval o).run Yapd.prog W = .ok (.value (.bool b)) W := by
  subst hb; simp only [execOp, ho, hx, hy]; simp [go_sem, Yapd.underlying3]
theorem run_lss3 (ho : o.op = .binOp .lss 3 x y 3) (hx : a.eval x = .int .i64 m) (hy : a.eval y = .int .i64 n) (hb : decide (m < n) = b) : (execOp a.eval o).run Yapd.prog W = .ok (.value (.bool b)) W := by
  subst hb; simp only [execOp, ho, hx, hy]; simp [go_sem, Yapd.underlying3]
theorem run_leq3 (ho : o.op = .binOp .leq 3 x y 3) (hx : a.eval x = .int .i64 m) (hy : a.eval y = .int .i64 n) (hb : decide (m ≤ n) = b) : (execOp a.eval o).run Yapd.prog W = .ok (.value (.bool b)) W := by
  subst hb; simp only [execOp, ho, hx, hy]; simp [go_sem, Yapd.underlying3]
theorem run_gtr3 (ho : o.op = .binOp .gtr 3 x y 3) (hx : a.eval x = .int .i64 m) (hy : a.eval y = .int .i64 n) (hb : decide (n < m) = b) : (execOp a.eval o).run Yapd.prog W = .ok (.value (.bool b)) W := by
  subst hb; simp only [execOp, ho, hx, hy]; simp [go_sem, Yapd.underlying3]
theorem run_geq3 (ho : o.op = .binOp .geq 3 x y 3) (hx : a.eval x = .int .i64 m) (hy : a.eval y = .int .i64 n) (hb : decide (n ≤ m) = b) : (execOp a.eval o).run Yapd.prog W = .ok (.value (.bool b)) W := by
  subst hb; simp only [execOp, ho, hx, hy]; simp [go_sem, Yapd.underlying3]
theorem run_add3 {r : Int} (ho : o.op = .binOp .add 3 x y 3) (hx : a.eval x = .int .i64 m) (hy : a.eval y = .int .i64 n) (hb : wrap64 (m + n) = r) : (execOp a.eval o).run Yapd.prog W = .ok (.value (.int .i64 r)) W := by
  subst hb; simp only [execOp, ho, hx, hy]; simp [go_sem, Yapd.underlying3]; exact Go.IntWalk.i64_left _
theorem run_sub3 {r : Int} (ho : o.op = .binOp .sub 3 x y 3) (hx : a.eval x = .int .i64 m) (hy : a.eval y = .int .i64 n) (hb : wrap64 (m - n) = r) : (execOp a.eval o).run Yapd.prog W = .ok (.value (.int .i64 r)) W := by
  subst hb; simp only [execOp, ho, hx, hy]; simp [go_sem, Yapd.underlying3]; exact Go.IntWalk.i64_left _
end
end Go.Proofs.Ygdapg
