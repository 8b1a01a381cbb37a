/-
  Fair: the plain law.
-/
import Derived.Test.YgdapgJ5
set_option linter.unusedSimpArgs false
set_option linter.unusedVariables false
namespace Go.Proofs.Ygdapg
open Go.RowKit

theorem kdOp (k : KS) (p l : Nat) (g : Nat → Int × Int) (h : kdOf k p l g = 7 ∨ kdOf k p l g = 8) : 0 ≤ opOf k p l g ∧ opOf k p l g < (k.n : Int) := by
  have := (fetchK_range k.n l g (k.pc p).toNat).2.2 h
  rwa [fetchK_operand _ _ _ _ (by show kdOf k p l g ≠ 6; omega)] at this

/-- How far q stands behind last, going round the table. -/
def rank (N : Nat) (last : Int) (q : Nat) : Int := if last < (q : Int) then (q : Int) - last - 1 else (q : Int) - last - 1 + N

/-- A process beside p that is runnable and was not killed stays so. -/
theorem stays {k : KS} {p l : Nat} {g : Nat → Int × Int} {q : Nat} (hq : q ≠ p) (h0 : k.st q = 0) (h7 : ¬ (kdOf k p l g = 7 ∧ opOf k p l g = (q : Int))) : (quantumK k p l g).st q = 0 := by
  obtain ⟨h1, _⟩ := quantum_oth k p l g q hq (fun e e' => h7 ⟨e, by have := (kdOp k p l g (.inl e)).1; omega⟩)
  rcases h1 with h1 | h1
  · rw [h1]; exact h0
  · omega

theorem fair_inv {pl : Nat → Nat} {pg : Nat → Nat → Int × Int} {N : Nat} (hN : N ≤ 8) (hpl : ∀ i, i < N → pl i ≤ 32) {ps : List Nat} (ho : PicksOk PickOk pl pg (bootK N) ps) : ∀ i, i ≤ ps.length → ∀ q, q < N →
    wt (momK pl pg (bootK N) ps) i q = -1 ∨ (0 ≤ wt (momK pl pg (bootK N) ps) i q ∧ (runK pl pg (bootK N) (ps.take i)).st q = 0 ∧ wt (momK pl pg (bootK N) ps) i q + rank N (runK pl pg (bootK N) (ps.take i)).last q ≤ (N : Int) - 1)
  | 0, _, q, _ => .inl rfl
  | i + 1, hi, q, hq => by
    have ih := fair_inv hN hpl ho i (by omega) q hq
    have hoi : PicksOk PickOk pl pg (bootK N) (ps.take i) := fun j p hp => by
      by_cases hj : j < i
      · rw [List.getElem?_take_of_lt hj] at hp
        rw [List.take_take, Nat.min_eq_left (by omega)]
        exact ho j p hp
      · have := (List.getElem?_eq_some_iff.1 hp).1
        simp at this; omega
    have hinv : Inv (runK pl pg (bootK N) (ps.take i)) := run_inv pickOk_picks _ (bootK N) (Inv.boot N hN) hpl hoi
    have hkn : (runK pl pg (bootK N) (ps.take i)).n = N := runK_n pl pg _ (bootK N)
    obtain ⟨m, hm⟩ : ∃ m, (momK pl pg (bootK N) ps)[i]? = some m := ⟨_, List.getElem?_eq_getElem (by rw [momK_length]; omega)⟩
    rw [wt_succ hm]
    obtain ⟨p, hp, rfl, hr⟩ := mom_get hm
    have hpk := ho i p hp
    rw [hr]
    generalize runK pl pg (bootK N) (ps.take i) = k at *
    generalize wt (momK pl pg (bootK N) ps) i q = z at *
    have hlast := hinv.last
    rw [hkn] at hlast
    have hlk : (quantumK k p (pl p) (pg p)).last = (p : Int) := rfl
    rw [hlk]
    have hpn : p < N := by have := (pickOk_picks _ _ hpk).1; omega
    have rk : rank N (p : Int) q ≤ (N : Int) - 1 := by unfold rank; split <;> omega
    unfold wst
    show (if (q : Int) = (p : Int) ∨ (kdOf k p (pl p) (pg p) = 7 ∧ opOf k p (pl p) (pg p) = (q : Int)) then (if (quantumK k p (pl p) (pg p)).st q = 0 then (0 : Int) else -1) else if 0 ≤ z then z + 1 else if (quantumK k p (pl p) (pg p)).st q = 0 then (0 : Int) else -1) = -1 ∨
      (0 ≤ (if (q : Int) = (p : Int) ∨ (kdOf k p (pl p) (pg p) = 7 ∧ opOf k p (pl p) (pg p) = (q : Int)) then (if (quantumK k p (pl p) (pg p)).st q = 0 then (0 : Int) else -1) else if 0 ≤ z then z + 1 else if (quantumK k p (pl p) (pg p)).st q = 0 then (0 : Int) else -1) ∧ _ ∧
        (if (q : Int) = (p : Int) ∨ (kdOf k p (pl p) (pg p) = 7 ∧ opOf k p (pl p) (pg p) = (q : Int)) then (if (quantumK k p (pl p) (pg p)).st q = 0 then (0 : Int) else -1) else if 0 ≤ z then z + 1 else if (quantumK k p (pl p) (pg p)).st q = 0 then (0 : Int) else -1) + _ ≤ _)
    have dflt : (if (quantumK k p (pl p) (pg p)).st q = 0 then (0 : Int) else -1) = -1 ∨ (0 ≤ (if (quantumK k p (pl p) (pg p)).st q = 0 then (0 : Int) else -1) ∧ (quantumK k p (pl p) (pg p)).st q = 0 ∧ (if (quantumK k p (pl p) (pg p)).st q = 0 then (0 : Int) else -1) + rank N (p : Int) q ≤ (N : Int) - 1) := by
      by_cases h : (quantumK k p (pl p) (pg p)).st q = 0
      · rw [if_pos h]; exact .inr ⟨by omega, h, by omega⟩
      · rw [if_neg h]; exact .inl rfl
    by_cases hR : (q : Int) = (p : Int) ∨ (kdOf k p (pl p) (pg p) = 7 ∧ opOf k p (pl p) (pg p) = (q : Int))
    · rw [if_pos hR]; exact dflt
    · rw [if_neg hR]
      by_cases hz : 0 ≤ z
      · rw [if_pos hz]
        rcases ih with h | ⟨_, h0, h1⟩
        · omega
        · have hqp : q ≠ p := fun e => hR (.inl (by rw [e]))
          refine .inr ⟨by omega, stays hqp h0 (fun h => hR (.inr h)), ?_⟩
          have : rank N (p : Int) q + 1 ≤ rank N k.last q := by
            rcases hpk with ⟨h, _⟩ | ⟨p', hp', _, _, h2⟩
            · omega
            · have e : p = p' := by omega
              subst e
              unfold rank
              rcases h2 with ⟨h2, h3⟩ | ⟨h2, h3, h4⟩
              · have := h3 q
                by_cases hA : k.last < (q : Int)
                · have : ¬ q < p := fun hlt => this hA hlt h0
                  rw [if_pos hA, if_pos (by omega)]; omega
                · rw [if_neg hA, if_neg (by omega)]; omega
              · have g3 := h3 q (by omega)
                have g4 := h4 q
                by_cases hA : k.last < (q : Int)
                · exact absurd h0 (g3 hA)
                · have : ¬ q < p := fun hlt => g4 hlt h0
                  rw [if_neg hA, if_pos (by omega)]; omega
          omega
      · rw [if_neg hz]; exact dflt

theorem fairOk {pl : Nat → Nat} {pg : Nat → Nat → Int × Int} {N : Nat} (hN : N ≤ 8) (hpl : ∀ i, i < N → pl i ≤ 32) {ps : List Nat} (ho : PicksOk PickOk pl pg (bootK N) ps) : FairOk N (momK pl pg (bootK N) ps) := by
  intro i hi q hq
  rw [momK_length] at hi
  have hoi : PicksOk PickOk pl pg (bootK N) (ps.take i) := fun j p hp => by
    by_cases hj : j < i
    · rw [List.getElem?_take_of_lt hj] at hp
      rw [List.take_take, Nat.min_eq_left (by omega)]
      exact ho j p hp
    · have := (List.getElem?_eq_some_iff.1 hp).1
      simp at this; omega
  have hinv : Inv (runK pl pg (bootK N) (ps.take i)) := run_inv pickOk_picks _ (bootK N) (Inv.boot N hN) hpl hoi
  have hkn : (runK pl pg (bootK N) (ps.take i)).n = N := runK_n pl pg _ (bootK N)
  have hlast := hinv.last
  rw [hkn] at hlast
  rcases fair_inv hN hpl ho i hi q hq with h | ⟨h1, _, h2⟩
  · rw [h]; omega
  · have : 0 ≤ rank N (runK pl pg (bootK N) (ps.take i)).last q := by unfold rank; split <;> omega
    omega
end Go.Proofs.Ygdapg
