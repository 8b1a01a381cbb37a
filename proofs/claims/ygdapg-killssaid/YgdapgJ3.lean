/-
  Kills: the plain law, the law WALKED.
-/
import Derived.Test.YgdapgJ2
set_option linter.unusedSimpArgs false
set_option linter.unusedVariables false
namespace Go.Proofs.Ygdapg
open Go.RowKit

theorem kd78 (k : KS) (p l : Nat) (g : Nat → Int × Int) (h : kdOf k p l g = 7 ∨ kdOf k p l g = 8) : 0 ≤ opOf k p l g ∧ opOf k p l g < (k.n : Int) := by
  have := (fetchK_range k.n l g (k.pc p).toNat).2.2 h
  rwa [fetchK_operand _ _ _ _ (by show kdOf k p l g ≠ 6; omega)] at this

theorem kills_inv {Pk : KS → Int → Prop} (hPk : Picks Pk) {pl : Nat → Nat} {pg : Nat → Nat → Int × Int} {k : KS} {ps : List Nat} (ho : PicksOk Pk pl pg k ps) : ∀ i, i ≤ ps.length → ∀ q, dd (momK pl pg k ps) i q = true → (runK pl pg k (ps.take i)).st q = 3 ∧ (runK pl pg k (ps.take i)).su q = -2
  | 0, _, q, h => by simp [dd] at h
  | i + 1, hi, q, h => by
    obtain ⟨m, hm⟩ : ∃ m, (momK pl pg k ps)[i]? = some m := ⟨_, List.getElem?_eq_getElem (by rw [momK_length]; omega)⟩
    obtain ⟨p, hp, rfl, hr⟩ := mom_get hm
    rw [dd_succ hm] at h
    rw [hr]
    by_cases hk : kdOf (runK pl pg k (ps.take i)) p (pl p) (pg p) = 7 ∧ opOf (runK pl pg k (ps.take i)) p (pl p) (pg p) = (q : Int)
    · have := quantum_kill (runK pl pg k (ps.take i)) p (pl p) (pg p) hk.1
      rw [hk.2] at this
      simpa using this
    · have hd : dd (momK pl pg k ps) i q = true := by
        rcases Bool.or_eq_true_iff.1 h with h | h
        · exact h
        · simp only [Bool.and_eq_true, beq_iff_eq] at h
          exact absurd h hk
      obtain ⟨h1, h2⟩ := kills_inv hPk ho i (by omega) q hd
      have hs := (hPk _ _ (ho i p hp)).2
      have hne : q ≠ p := fun e => by rw [e, hs] at h1; simp at h1
      obtain ⟨g1, g2, _⟩ := quantum_oth (runK pl pg k (ps.take i)) p (pl p) (pg p) q hne (fun e7 e => hk ⟨e7, by
        have hg := (kd78 (runK pl pg k (ps.take i)) p (pl p) (pg p) (.inl e7)).1
        omega⟩)
      refine ⟨?_, by rw [g2]; exact h2⟩
      rcases g1 with g1 | g1
      · rw [g1]; exact h1
      · rw [h1] at g1; simp at g1

theorem killsOk {Pk : KS → Int → Prop} (hPk : Picks Pk) {pl : Nat → Nat} {pg : Nat → Nat → Int × Int} {k : KS} {ps : List Nat} (ho : PicksOk Pk pl pg k ps) (N : Nat) : KillsOk N (momK pl pg k ps) := by
  intro i m hm q hq
  have hil : i < ps.length := by
    have := (List.getElem?_eq_some_iff.1 hm).1
    rwa [momK_length] at this
  have h1 := kills_inv hPk ho i (by omega) q
  have h2 := kills_inv hPk ho (i + 1) (by omega) q
  obtain ⟨p, hp, rfl, hr⟩ := mom_get hm
  refine ⟨fun h e => ?_, fun h => ?_⟩
  · have hs := (hPk _ _ (ho i p hp)).2
    have e' : p = q := Int.ofNat.inj (show (p : Int) = q from e)
    have := (h1 h).1
    rw [← e', hs] at this
    simp at this
  · have := h2 h
    rw [hr] at this
    exact this
end Go.Proofs.Ygdapg
