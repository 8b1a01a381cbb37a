/-
  One quantum, plain: what it does to the processes.
-/
import Derived.Test.YgdapgInv
set_option linter.unusedSimpArgs false
set_option linter.unusedVariables false
namespace Go.Proofs.Ygdapg
open Go.RowKit

theorem fetchK_operand (n l : Nat) (g : Nat → Int × Int) (pc : Nat) (h : (fetchK n l g pc).1 ≠ 6) : (fetchK n l g pc).2.1 = operandK l g pc := by
  by_cases h1 : l ≤ pc
  · rw [fetchK, if_pos h1] at h; exact absurd rfl h
  rw [fetchK, if_neg h1] at h ⊢
  by_cases h2 : (g pc).1 < 0 ∨ 11 ≤ (g pc).1
  · rw [if_pos h2] at h; exact absurd rfl h
  rw [if_neg h2] at h ⊢
  by_cases h3 : ((g pc).1 = 2 ∨ (g pc).1 = 3) ∧ ((g pc).2 < 1 ∨ 4 < (g pc).2)
  · rw [if_pos h3] at h; exact absurd rfl h
  rw [if_neg h3] at h ⊢
  by_cases h4 : ((g pc).1 = 7 ∨ (g pc).1 = 8) ∧ ¬ (0 ≤ (g pc).2 ∧ (g pc).2 < (n : Int))
  · rw [if_pos h4] at h; exact absurd rfl h
  rw [if_neg h4, operandK, if_pos (by omega)]

/-- What becomes of a process beside the one that runs. -/
def Oth (k k' : KS) (q : Nat) : Prop := (k'.st q = k.st q ∨ (k.st q = 2 ∧ k'.st q = 0)) ∧ k'.su q = k.su q ∧ k'.acc q = k.acc q

theorem Oth.same {k k' : KS} {q : Nat} (h1 : k'.st q = k.st q) (h2 : k'.su q = k.su q) (h3 : k'.acc q = k.acc q) : Oth k k' q := ⟨.inl h1, h2, h3⟩
theorem wake_oth (k : KS) (on : Int) (q : Nat) : Oth k (wake k on) q := by
  refine ⟨?_, rfl, rfl⟩
  show (if _ then (0 : Int) else k.st q) = k.st q ∨ _
  split
  · rename_i h; exact .inr ⟨h.2.1, by show (if _ then (0 : Int) else k.st q) = 0; rw [if_pos h]⟩
  · exact .inl rfl
theorem Oth.pre {k k1 k' : KS} {q : Nat} (h : Oth k1 k' q) (h1 : k1.st q = k.st q) (h2 : k1.su q = k.su q) (h3 : k1.acc q = k.acc q) : Oth k k' q := by
  obtain ⟨h4, h5, h6⟩ := h
  exact ⟨by rw [← h1]; exact h4, by rw [h5, h2], by rw [h6, h3]⟩
theorem updN {f : Nat → Int} {p q : Nat} {v : Int} (h : q ≠ p) : upd f p v q = f q := by simp [upd, h]
theorem pset_st (k : KS) (b : Bool) (l : List Int) : (pset k b l).st = k.st ∧ (pset k b l).su = k.su ∧ (pset k b l).acc = k.acc ∧ (pset k b l).wo = k.wo := by cases b <;> exact ⟨rfl, rfl, rfl, rfl⟩
theorem put_oth (k : KS) (p : Nat) (b : Bool) (f e : Int) (q : Nat) (hq : q ≠ p) : Oth k (putK k p b f e) q := by
  unfold putK
  split
  · exact .same (updN hq) rfl rfl
  · obtain ⟨h1, h2, h3⟩ := pset_st (wake (pcInc k p) e) b (pget k b ++ [k.acc p])
    have h := wake_oth (pcInc k p) e q
    exact ⟨by rw [h1]; exact h.1, by rw [h2]; exact h.2.1, by rw [h3.1]; exact h.2.2⟩
theorem take_oth (k : KS) (p : Nat) (b : Bool) (f e : Int) (q : Nat) (hq : q ≠ p) : Oth k (takeK k p b f e) q := by
  unfold takeK
  split
  · exact .same (updN hq) rfl rfl
  · rename_i x r _
    obtain ⟨h1, h2, h3⟩ := pset_st (wake (pcInc { k with acc := upd k.acc p (wrap64 (k.acc p + x)) } p) f) b r
    have h := wake_oth (pcInc { k with acc := upd k.acc p (wrap64 (k.acc p + x)) } p) f q
    exact ⟨by rw [h1]; exact h.1, by rw [h2]; exact h.2.1, by rw [h3.1, h.2.2]; exact updN hq⟩
theorem exit_oth (k : KS) (p : Nat) (s : Int) (q : Nat) (hq : q ≠ p) : Oth k (exitK k p s) q :=
  (wake_oth _ _ q).pre (updN hq) (updN hq) rfl
theorem exit_self (k : KS) (p : Nat) (s : Int) : (exitK k p s).st p = 3 ∧ (exitK k p s).su p = s ∧ (exitK k p s).acc p = k.acc p := by
  refine ⟨?_, ?_, rfl⟩
  · show (if _ ∧ upd k.st p 3 p = 2 ∧ _ then (0 : Int) else upd k.st p 3 p) = 3
    simp [upd]
  · show upd k.su p s p = s
    simp [upd]
theorem act_oth (k : KS) (p : Nat) (kd a : Int) (ok : Bool) (q : Nat) (hq : q ≠ p) (h7 : kd = 7 → a.toNat ≠ q) : Oth k (actK k p kd a ok) q := by
  unfold actK
  split
  · exact .same rfl rfl (updN hq)
  split
  · exact .same rfl rfl rfl
  split
  · exact .same (updN hq) rfl rfl
  split
  · exact wake_oth (pcInc k p) a q
  split
  · exact put_oth _ _ _ _ _ _ hq
  split
  · exact take_oth _ _ _ _ _ _ hq
  split
  · exact put_oth _ _ _ _ _ _ hq
  split
  · exact take_oth _ _ _ _ _ _ hq
  split
  · rename_i h
    exact (exit_oth (pcInc k p) a.toNat (-2) q (fun e => h7 h e.symm)).pre rfl rfl rfl
  split
  · unfold awaitK
    split
    · exact .same rfl rfl (updN hq)
    · exact .same (updN hq) rfl rfl
  · exact exit_oth _ _ _ _ hq

/-- The kind and the operand that a quantum runs. -/
def kdOf (k : KS) (p l : Nat) (g : Nat → Int × Int) : Int := (fetchK k.n l g (k.pc p).toNat).1
def opOf (k : KS) (p l : Nat) (g : Nat → Int × Int) : Int := operandK l g (k.pc p).toNat

theorem settle_st (k : KS) (p q : Nat) (hq : q ≠ p) : (settleK k p).st q = k.st q := by
  show (if k.st p = 1 then upd k.st p 0 else k.st) q = _
  split
  · exact updN hq
  · rfl

theorem quantum_oth (k : KS) (p l : Nat) (g : Nat → Int × Int) (q : Nat) (hq : q ≠ p) (h7 : kdOf k p l g = 7 → (opOf k p l g).toNat ≠ q) : Oth k (quantumK k p l g) q := by
  have h := act_oth (traced (setRun k p) p (kdOf k p l g)) p (kdOf k p l g) (fetchK k.n l g (k.pc p).toNat).2.1 (fetchK k.n l g (k.pc p).toNat).2.2 q hq (fun e => by
    rw [fetchK_operand _ _ _ _ (by show kdOf k p l g ≠ 6; omega)]; exact h7 e)
  obtain ⟨h1, h2, h3⟩ := h.pre (k := k) (updN hq) rfl rfl
  exact ⟨by
    have e : (quantumK k p l g).st q = (stepK (setRun k p) p l g).st q := settle_st _ _ _ hq
    rw [e]; exact h1, h2, h3⟩

theorem quantum_kill (k : KS) (p l : Nat) (g : Nat → Int × Int) (h7 : kdOf k p l g = 7) : (quantumK k p l g).st (opOf k p l g).toNat = 3 ∧ (quantumK k p l g).su (opOf k p l g).toNat = -2 := by
  have ho : (fetchK k.n l g (k.pc p).toNat).2.1 = opOf k p l g := fetchK_operand _ _ _ _ (by show kdOf k p l g ≠ 6; omega)
  have e : stepK (setRun k p) p l g = exitK (pcInc (traced (setRun k p) p (kdOf k p l g)) p) (opOf k p l g).toNat (-2) := by
    show actK _ p (kdOf k p l g) (fetchK k.n l g (k.pc p).toNat).2.1 _ = _
    rw [ho]
    have e7 : (kdOf k p l g = 7) = True := eq_true h7
    unfold actK
    simp only [h7]
    simp
    show exitK (pcInc (traced (setRun k p) p (kdOf k p l g)) p) _ _ = _
    rw [h7]
  obtain ⟨h1, h2, _⟩ := exit_self (pcInc (traced (setRun k p) p (kdOf k p l g)) p) (opOf k p l g).toNat (-2)
  constructor
  · by_cases hp : (opOf k p l g).toNat = p
    · show (if (stepK (setRun k p) p l g).st p = 1 then upd (stepK (setRun k p) p l g).st p 0 else (stepK (setRun k p) p l g).st) _ = _
      rw [e, if_neg (by rw [hp] at h1 ⊢; rw [h1]; decide)]; exact h1
    · show (settleK _ p).st _ = _
      rw [settle_st _ _ _ hp, e]; exact h1
  · show (stepK (setRun k p) p l g).su _ = _
    rw [e]; exact h2

theorem quantumK_last (k : KS) (p l : Nat) (g : Nat → Int × Int) : (quantumK k p l g).last = p := rfl
end Go.Proofs.Ygdapg
