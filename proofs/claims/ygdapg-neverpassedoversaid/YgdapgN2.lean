/-
  NeverPassedOver: the plain law.
-/
import Derived.Test.YgdapgN1
set_option linter.unusedSimpArgs false
set_option linter.unusedVariables false
namespace Go.Proofs.Ygdapg
open Go.RowKit

theorem stAt_run {pl : Nat → Nat} {pg : Nat → Nat → Int × Int} {N : Nat} {ps : List Nat} : ∀ i, i ≤ ps.length → ∀ q, stAt (momK pl pg (bootK N) ps) i q = (runK pl pg (bootK N) (ps.take i)).st q
  | 0, _, q => rfl
  | i + 1, hi, q => by
    obtain ⟨m, hm⟩ : ∃ m, (momK pl pg (bootK N) ps)[i]? = some m := ⟨_, List.getElem?_eq_getElem (by rw [momK_length]; omega)⟩
    rw [stAt_succ hm]
    obtain ⟨p, hp, rfl, hr⟩ := mom_get hm
    rw [hr]
    rfl

theorem npoOk {pl : Nat → Nat} {pg : Nat → Nat → Int × Int} {N : Nat} {pr : Nat → Int} {q : Int} {ps : List Nat} (ho : PicksOk (PrioOk pr) pl pg (bootK N) ps) (hend : (ps.length : Int) = q ∨ ((ps.length : Int) ≤ q ∧ PrioOk pr (runK pl pg (bootK N) ps) (-1))) : NpoOk N pr q (momK pl pg (bootK N) ps) := by
  constructor
  · intro i m hm
    have hil : i < ps.length := by
      have := (List.getElem?_eq_some_iff.1 hm).1
      rwa [momK_length] at this
    have hst := stAt_run (pl := pl) (pg := pg) (N := N) (ps := ps) i (by omega)
    have hkn : (runK pl pg (bootK N) (ps.take i)).n = N := runK_n pl pg _ (bootK N)
    obtain ⟨p, hp, rfl, hr⟩ := mom_get hm
    rcases ho i p hp with ⟨h, _⟩ | ⟨x, h1, h2, h3, h4, _⟩
    · omega
    · have : p = x := by omega
      subst this
      rw [hkn] at h2 h4
      exact ⟨p, h2, rfl, by rw [hst]; exact h3, fun j hj h0 => h4 j hj (by rw [← hst]; exact h0)⟩
  · intro hlt j hj
    rw [momK_length] at hlt ⊢
    rw [stAt_run _ (Nat.le_refl _), List.take_length]
    have hkn : (runK pl pg (bootK N) ps).n = N := runK_n pl pg _ (bootK N)
    rcases hend with h | ⟨_, h⟩
    · omega
    · rcases h with ⟨_, h⟩ | ⟨x, h, _⟩
      · exact h j (by rw [hkn]; exact hj)
      · omega
end Go.Proofs.Ygdapg
