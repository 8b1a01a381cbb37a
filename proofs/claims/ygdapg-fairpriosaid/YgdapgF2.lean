/-
  FairPrio: the plain law.
-/
import Derived.Test.YgdapgF0
set_option linter.unusedSimpArgs false
set_option linter.unusedVariables false
namespace Go.Proofs.Ygdapg
open Go.RowKit

theorem kdOpP (k : KS) (p l : Nat) (g : Nat → Int × Int) (h : kdOf k p l g = 7 ∨ kdOf k p l g = 8) : 0 ≤ opOf k p l g ∧ opOf k p l g < (k.n : Int) := by
  have := (fetchK_range k.n l g (k.pc p).toNat).2.2 h
  rwa [fetchK_operand _ _ _ _ (by show kdOf k p l g ≠ 6; omega)] at this
theorem staysP {k : KS} {p l : Nat} {g : Nat → Int × Int} {q : Nat} (hq : q ≠ p) (h0 : k.st q = 0) (h7 : ¬ (kdOf k p l g = 7 ∧ opOf k p l g = (q : Int))) : (quantumK k p l g).st q = 0 := by
  obtain ⟨h1, _⟩ := quantum_oth k p l g q hq (fun e e' => h7 ⟨e, by have := (kdOpP k p l g (.inl e)).1; omega⟩)
  rcases h1 with h1 | h1
  · rw [h1]; exact h0
  · omega
theorem picksTake {Pk : KS → Int → Prop} {pl : Nat → Nat} {pg : Nat → Nat → Int × Int} {k : KS} {ps : List Nat} (ho : PicksOk Pk pl pg k ps) (i : Nat) : PicksOk Pk pl pg k (ps.take i) := fun j p hp => by
  by_cases hj : j < i
  · rw [List.getElem?_take_of_lt hj] at hp
    rw [List.take_take, Nat.min_eq_left (by omega)]
    exact ho j p hp
  · have := (List.getElem?_eq_some_iff.1 hp).1
    simp at this; omega

/-- How far q stands behind last, going round the table. -/
def rankP (N : Nat) (last : Int) (q : Nat) : Int := if last < (q : Int) then (q : Int) - last - 1 else (q : Int) - last - 1 + N

/-- How many of the first n are such. -/
def cntP (P : Nat → Bool) : Nat → Nat
  | 0 => 0
  | n + 1 => cntP P n + (if P n = true then 1 else 0)
theorem cntP_le {P Q : Nat → Bool} : ∀ n, (∀ j, j < n → P j = true → Q j = true) → cntP P n ≤ cntP Q n
  | 0, _ => Nat.le_refl _
  | n + 1, h => by
    have h1 := cntP_le n (fun j hj => h j (by omega))
    have h2 := h n (by omega)
    unfold cntP
    by_cases e : P n = true
    · rw [if_pos e, if_pos (h2 e)]; omega
    · rw [if_neg e]; split <;> omega
theorem cntP_lt {P Q : Nat → Bool} : ∀ n, (∀ j, j < n → P j = true → Q j = true) → (∃ x, x < n ∧ Q x = true ∧ ¬ P x = true) → cntP P n < cntP Q n
  | 0, _, ⟨x, hx, _⟩ => by omega
  | n + 1, h, ⟨x, hx, hQ, hP⟩ => by
    have h2 := h n (by omega)
    unfold cntP
    by_cases e : x = n
    · subst e
      have h1 := cntP_le x (fun j hj => h j (by omega))
      rw [if_neg hP, if_pos hQ]; omega
    · have h1 := cntP_lt n (fun j hj => h j (by omega)) ⟨x, by omega, hQ, hP⟩
      by_cases e : P n = true
      · rw [if_pos e, if_pos (h2 e)]; omega
      · rw [if_neg e]; split <;> omega
theorem cntE_cntP (pr : Nat → Int) (lv : Int) : ∀ n, cntE pr lv n = cntP (fun j => decide (pr j = lv)) n
  | 0 => rfl
  | n + 1 => by unfold cntE cntP; rw [cntE_cntP pr lv n]; simp

/-- How many of q's equals come before it, going round from la. -/
def rk (N : Nat) (pr : Nat → Int) (la : Int) (q : Nat) : Nat := cntP (fun j => decide (pr j = pr q ∧ rankP N la j < rankP N la q)) N

theorem rk_lt (N : Nat) (pr : Nat → Int) (la : Int) (q : Nat) (hq : q < N) : rk N pr la q < cntE pr (pr q) N := by
  rw [cntE_cntP]
  refine cntP_lt N (fun j hj h => ?_) ⟨q, hq, by simp, by simp⟩
  simp only [decide_eq_true_eq] at h ⊢
  exact h.1

theorem rk_next (N : Nat) (pr : Nat → Int) (la : Int) (p q : Nat) (h1 : -1 ≤ la) (h2 : la < (N : Int)) (hp : p < N) (hq : q < N) (hpr : pr p = pr q) (hlt : rankP N la p < rankP N la q) : rk N pr (p : Int) q < rk N pr la q := by
  refine cntP_lt N (fun j hj h => ?_) ⟨p, hp, by simp [hpr, hlt], ?_⟩
  · simp only [decide_eq_true_eq] at h ⊢
    refine ⟨h.1, ?_⟩
    have h3 := h.2
    unfold rankP at *
    split at h3 <;> split at h3 <;> split at hlt <;> split at hlt <;> split <;> (try split) <;> omega
  · simp only [decide_eq_true_eq]
    intro h
    have h3 := h.2
    unfold rankP at h3
    split at h3 <;> split at h3 <;> omega

theorem last_inv {pl : Nat → Nat} {pg : Nat → Nat → Int × Int} {N : Nat} {pr : Nat → Int} {ps : List Nat} (ho : PicksOk (PrioOk pr) pl pg (bootK N) ps) : ∀ i, i ≤ ps.length → ∀ lv, lastOfK (runK pl pg (bootK N) (ps.take i)) pr lv = lastR N pr lv (runK pl pg (bootK N) (ps.take i)).trace.reverse
  | 0, _, lv => rfl
  | i + 1, hi, lv => by
    obtain ⟨m, hm⟩ : ∃ m, (momK pl pg (bootK N) ps)[i]? = some m := ⟨_, List.getElem?_eq_getElem (by rw [momK_length]; omega)⟩
    obtain ⟨p, hp, _, hr⟩ := mom_get hm
    have hpn := (prioOk_picks pr _ _ (ho i p hp)).1
    have hkn : (runK pl pg (bootK N) (ps.take i)).n = N := runK_n pl pg _ (bootK N)
    rw [hr]
    generalize runK pl pg (bootK N) (ps.take i) = k at *
    have hf := fetchK_range N (pl p) (pg p) (k.pc p).toNat
    unfold lastOfK
    rw [quantumK_trace, List.reverse_append, quantumK_n, hkn]
    show (if 0 ≤ (p : Int) ∧ pr (p : Int).toNat = lv then (p : Int) else lastR N pr lv (((p : Int) * 16 + (fetchK N (pl p) (pg p) (k.pc p).toNat).1) :: k.trace.reverse)) = lastR N pr lv (((p : Int) * 16 + (fetchK N (pl p) (pg p) (k.pc p).toNat).1) :: k.trace.reverse)
    have e : ((p : Int) * 16 + (fetchK N (pl p) (pg p) (k.pc p).toNat).1) / 16 = (p : Int) := by omega
    by_cases h : pr p = lv
    · rw [if_pos ⟨by omega, by simpa using h⟩, lastR, e, if_pos ⟨by omega, by simpa using h⟩]
    · rw [if_neg (fun h' => h (by simpa using h'.2))]

theorem last_step {pl : Nat → Nat} {pg : Nat → Nat → Int × Int} {N : Nat} {pr : Nat → Int} {ps : List Nat} (ho : PicksOk (PrioOk pr) pl pg (bootK N) ps) {i p : Nat} (hp : ps[i]? = some p) (lv : Int) :
    lastOfK (quantumK (runK pl pg (bootK N) (ps.take i)) p (pl p) (pg p)) pr lv = if pr p = lv then (p : Int) else lastOfK (runK pl pg (bootK N) (ps.take i)) pr lv := by
  have hil : i < ps.length := (List.getElem?_eq_some_iff.1 hp).1
  have h1 := last_inv ho i (by omega) lv
  have hpn := (prioOk_picks pr _ _ (ho i p hp)).1
  have hkn : (runK pl pg (bootK N) (ps.take i)).n = N := runK_n pl pg _ (bootK N)
  rw [h1]
  generalize runK pl pg (bootK N) (ps.take i) = k at *
  have hf := fetchK_range N (pl p) (pg p) (k.pc p).toNat
  unfold lastOfK
  rw [quantumK_trace, List.reverse_append, quantumK_n, hkn]
  show (if 0 ≤ (p : Int) ∧ pr (p : Int).toNat = lv then (p : Int) else lastR N pr lv (((p : Int) * 16 + (fetchK N (pl p) (pg p) (k.pc p).toNat).1) :: k.trace.reverse)) = _
  have e : ((p : Int) * 16 + (fetchK N (pl p) (pg p) (k.pc p).toNat).1) / 16 = (p : Int) := by omega
  by_cases h : pr p = lv
  · rw [if_pos ⟨by omega, by simpa using h⟩, if_pos h]
  · rw [if_neg (fun h' => h (by simpa using h'.2)), lastR, e, if_neg (fun h' => h (by simpa using h'.2)), if_neg h]

theorem fairPrio_inv {pl : Nat → Nat} {pg : Nat → Nat → Int × Int} {N : Nat} {pr : Nat → Int} (hN : N ≤ 8) (hpl : ∀ i, i < N → pl i ≤ 32) {ps : List Nat} (ho : PicksOk (PrioOk pr) pl pg (bootK N) ps) : ∀ i, i ≤ ps.length → ∀ q, q < N →
    wp (momK pl pg (bootK N) ps) pr i q = -1 ∨ (0 ≤ wp (momK pl pg (bootK N) ps) pr i q ∧ (runK pl pg (bootK N) (ps.take i)).st q = 0 ∧ wp (momK pl pg (bootK N) ps) pr i q + rk N pr (lastOfK (runK pl pg (bootK N) (ps.take i)) pr (pr q)) q < (cntE pr (pr q) N : Int))
  | 0, _, q, _ => .inl rfl
  | i + 1, hi, q, hq => by
    have ih := fairPrio_inv hN hpl ho i (by omega) q hq
    have hinv : Inv (runK pl pg (bootK N) (ps.take i)) := run_inv (prioOk_picks pr) _ (bootK N) (Inv.boot N hN) hpl (picksTake ho _)
    have hkn : (runK pl pg (bootK N) (ps.take i)).n = N := runK_n pl pg _ (bootK N)
    obtain ⟨m, hm⟩ : ∃ m, (momK pl pg (bootK N) ps)[i]? = some m := ⟨_, List.getElem?_eq_getElem (by rw [momK_length]; omega)⟩
    rw [wp_succ hm]
    obtain ⟨p, hp, rfl, hr⟩ := mom_get hm
    have hpk := ho i p hp
    have hls := last_step ho hp (pr q)
    rw [hr, hls]
    generalize runK pl pg (bootK N) (ps.take i) = k at *
    generalize wp (momK pl pg (bootK N) ps) pr i q = z at *
    have hlr := lastOfK_range k pr (pr q) hinv
    rw [hkn] at hlr
    have hpn : p < N := by have := (prioOk_picks pr _ _ hpk).1; omega
    have dflt : (if (quantumK k p (pl p) (pg p)).st q = 0 then (0 : Int) else -1) = -1 ∨ (0 ≤ (if (quantumK k p (pl p) (pg p)).st q = 0 then (0 : Int) else -1) ∧ (quantumK k p (pl p) (pg p)).st q = 0 ∧ (if (quantumK k p (pl p) (pg p)).st q = 0 then (0 : Int) else -1) + (rk N pr (if pr p = pr q then (p : Int) else lastOfK k pr (pr q)) q : Int) < (cntE pr (pr q) N : Int)) := by
      have hrl := rk_lt N pr (if pr p = pr q then (p : Int) else lastOfK k pr (pr q)) q hq
      by_cases h : (quantumK k p (pl p) (pg p)).st q = 0
      · rw [if_pos h]; exact .inr ⟨by omega, h, by omega⟩
      · rw [if_neg h]; exact .inl rfl
    have hw : wsp (moOf k p (pl p) (pg p)) pr z q = if (q : Int) = (p : Int) ∨ (kdOf k p (pl p) (pg p) = 7 ∧ opOf k p (pl p) (pg p) = (q : Int)) then (if (quantumK k p (pl p) (pg p)).st q = 0 then (0 : Int) else -1)
        else if 0 ≤ z then (if pr q = pr (p : Int).toNat then z + 1 else z) else if (quantumK k p (pl p) (pg p)).st q = 0 then (0 : Int) else -1 := rfl
    rw [hw]
    by_cases hR : (q : Int) = (p : Int) ∨ (kdOf k p (pl p) (pg p) = 7 ∧ opOf k p (pl p) (pg p) = (q : Int))
    · rw [if_pos hR]; exact dflt
    · rw [if_neg hR]
      by_cases hz : 0 ≤ z
      · rw [if_pos hz]
        rcases ih with h | ⟨_, h0, h1⟩
        · omega
        · have hqp : q ≠ p := fun e => hR (.inl (by rw [e]))
          have hst := staysP hqp h0 (fun h => hR (.inr h))
          by_cases hpq : pr p = pr q
          · rw [if_pos (by simpa using hpq.symm), if_pos hpq]
            refine .inr ⟨by omega, hst, ?_⟩
            have hlt : rankP N (lastOfK k pr (pr q)) p < rankP N (lastOfK k pr (pr q)) q := by
              rcases hpk with ⟨h, _⟩ | ⟨p', hp', _, _, _, h2⟩
              · omega
              · have e : p = p' := by omega
                subst e
                rw [hpq] at h2
                unfold rankP
                generalize lastOfK k pr (pr q) = la at *
                rcases h2 with ⟨h2, h3⟩ | ⟨h2, h3, h4⟩
                · have g := h3 q
                  rw [if_pos h2]
                  by_cases hA : la < (q : Int)
                  · have : ¬ q < p := fun hl => g hA hl ⟨h0, rfl⟩
                    rw [if_pos hA]; omega
                  · rw [if_neg hA]; omega
                · have g3 := h3 q (by omega)
                  have g4 := h4 q
                  rw [if_neg (by omega)]
                  by_cases hA : la < (q : Int)
                  · exact absurd ⟨h0, rfl⟩ (g3 hA)
                  · have : ¬ q < p := fun hl => g4 hl ⟨h0, rfl⟩
                    rw [if_neg hA]; omega
            have := rk_next N pr (lastOfK k pr (pr q)) p q hlr.1 hlr.2 hpn hq hpq hlt
            omega
          · rw [if_neg (fun h => hpq (by simpa using h.symm)), if_neg hpq]
            exact .inr ⟨hz, hst, h1⟩
      · rw [if_neg hz]; exact dflt

theorem fairPrioOk {pl : Nat → Nat} {pg : Nat → Nat → Int × Int} {N : Nat} {pr : Nat → Int} (hN : N ≤ 8) (hpl : ∀ i, i < N → pl i ≤ 32) {ps : List Nat} (ho : PicksOk (PrioOk pr) pl pg (bootK N) ps) : FairPrioOk N pr (momK pl pg (bootK N) ps) := by
  constructor
  · intro i hi q hq
    rw [momK_length] at hi
    have hc := rk_lt N pr 0 q hq
    rcases fairPrio_inv hN hpl ho i hi q hq with h | ⟨h1, _, h2⟩
    · rw [h]; omega
    · omega
  · intro i m hm
    obtain ⟨p, hp, rfl, hr⟩ := mom_get hm
    have hpn := (prioOk_picks pr _ _ (ho i p hp)).1
    have hkn : (runK pl pg (bootK N) (ps.take i)).n = N := runK_n pl pg _ (bootK N)
    exact ⟨p, by omega, rfl⟩
end Go.Proofs.Ygdapg
