/-
  Waits: the plain law.
-/
import Derived.Test.YgdapgW2
set_option linter.unusedSimpArgs false
set_option linter.unusedVariables false
namespace Go.Proofs.Ygdapg
open Go.RowKit

theorem kdOp8 (k : KS) (p l : Nat) (g : Nat → Int × Int) (h : kdOf k p l g = 7 ∨ kdOf k p l g = 8) : 0 ≤ opOf k p l g ∧ opOf k p l g < (k.n : Int) := by
  have := (fetchK_range k.n l g (k.pc p).toNat).2.2 h
  rwa [fetchK_operand _ _ _ _ (by show kdOf k p l g ≠ 6; omega)] at this

theorem picksOk_take {Pk : KS → Int → Prop} {pl : Nat → Nat} {pg : Nat → Nat → Int × Int} {k : KS} {ps : List Nat} (ho : PicksOk Pk pl pg k ps) (i : Nat) : PicksOk Pk pl pg k (ps.take i) := fun j p hp => by
  by_cases hj : j < i
  · rw [List.getElem?_take_of_lt hj] at hp
    rw [List.take_take, Nat.min_eq_left (by omega)]
    exact ho j p hp
  · have := (List.getElem?_eq_some_iff.1 hp).1
    simp at this; omega

theorem accAt_run {pl : Nat → Nat} {pg : Nat → Nat → Int × Int} {N : Nat} {ps : List Nat} : ∀ i, i ≤ ps.length → ∀ q, accAt (momK pl pg (bootK N) ps) i q = (runK pl pg (bootK N) (ps.take i)).acc q
  | 0, _, q => rfl
  | i + 1, hi, q => by
    obtain ⟨m, hm⟩ : ∃ m, (momK pl pg (bootK N) ps)[i]? = some m := ⟨_, List.getElem?_eq_getElem (by rw [momK_length]; omega)⟩
    rw [accAt_succ hm]
    obtain ⟨p, hp, rfl, hr⟩ := mom_get hm
    rw [hr]
    rfl

theorem quantum_wait (k : KS) (p l : Nat) (g : Nat → Int × Int) (h8 : kdOf k p l g = 8) : ∃ a : Nat, a < k.n ∧ opOf k p l g = (a : Int) ∧
    (((quantumK k p l g).st a = 3 ∧ (quantumK k p l g).st p = 0 ∧ (quantumK k p l g).acc p = wrap64 (k.acc p + (quantumK k p l g).su a)) ∨
    ((quantumK k p l g).st a ≠ 3 ∧ (quantumK k p l g).st p = 2 ∧ (quantumK k p l g).wo p = 9 + (a : Int) ∧ (quantumK k p l g).acc p = k.acc p)) := by
  obtain ⟨h1, h2⟩ := kdOp8 k p l g (.inr h8)
  obtain ⟨a, ha⟩ := Int.eq_ofNat_of_zero_le h1
  refine ⟨a, by omega, ha, ?_⟩
  have ho : (fetchK k.n l g (k.pc p).toNat).2.1 = opOf k p l g := fetchK_operand _ _ _ _ (by show kdOf k p l g ≠ 6; omega)
  have e : stepK (setRun k p) p l g = awaitK (traced (setRun k p) p (kdOf k p l g)) p a := by
    show actK _ p (kdOf k p l g) (fetchK k.n l g (k.pc p).toNat).2.1 _ = _
    rw [ho, ha]
    unfold actK
    simp only [h8]
    simp
    show awaitK (traced (setRun k p) p (kdOf k p l g)) _ _ = _
    rw [h8]
  have hq : quantumK k p l g = settleK (awaitK (traced (setRun k p) p (kdOf k p l g)) p a) p := by
    unfold quantumK; rw [e]
  rw [hq]
  generalize hK : traced (setRun k p) p (kdOf k p l g) = K
  have hKp : K.st p = 1 := by rw [← hK]; simp [traced, setRun, upd]
  have hKa : K.acc = k.acc := by rw [← hK]; rfl
  unfold awaitK
  by_cases h3 : K.st a = 3
  · have hap : a ≠ p := fun e => by rw [e, hKp] at h3; simp at h3
    rw [if_pos h3]
    refine .inl ⟨?_, ?_, ?_⟩
    · rw [settle_st _ _ _ hap]; exact h3
    · show (if K.st p = 1 then upd K.st p 0 else K.st) p = 0
      rw [if_pos hKp]; simp [upd]
    · show upd K.acc p (wrap64 (K.acc p + K.su a)) p = wrap64 (k.acc p + K.su a)
      rw [hKa]; simp [upd]
  · rw [if_neg h3]
    have hs : (sleepK K p (9 + (a : Int))).st p = 2 := by simp [sleepK, upd]
    have hq2 : (settleK (sleepK K p (9 + (a : Int))) p).st = (sleepK K p (9 + (a : Int))).st := by
      show (if (sleepK K p (9 + (a : Int))).st p = 1 then _ else _) = _
      rw [if_neg (by rw [hs]; decide)]
    refine .inr ⟨?_, ?_, ?_, ?_⟩
    · rw [hq2]
      by_cases hap : a = p
      · rw [hap] at hs ⊢; rw [hs]; decide
      · show upd K.st p 2 a ≠ 3
        rw [updN hap]; exact h3
    · rw [hq2]; exact hs
    · show upd K.wo p (9 + (a : Int)) p = _
      simp [upd]
    · show K.acc p = _
      rw [hKa]

theorem waitsOk {Pk : KS → Int → Prop} (hPk : Picks Pk) {pl : Nat → Nat} {pg : Nat → Nat → Int × Int} {N : Nat} (hN : N ≤ 8) (hpl : ∀ i, i < N → pl i ≤ 32) {ps : List Nat} (ho : PicksOk Pk pl pg (bootK N) ps) : WaitsOk N (momK pl pg (bootK N) ps) := by
  intro i m hm
  have hil : i < ps.length := by
    have := (List.getElem?_eq_some_iff.1 hm).1
    rwa [momK_length] at this
  have hacc := accAt_run (pl := pl) (pg := pg) (N := N) (ps := ps) i (by omega)
  have hinv : Inv (runK pl pg (bootK N) (ps.take (i + 1))) := run_inv hPk _ (bootK N) (Inv.boot N hN) hpl (picksOk_take ho _)
  have hkn : (runK pl pg (bootK N) (ps.take i)).n = N := runK_n pl pg _ (bootK N)
  have hkn' : (runK pl pg (bootK N) (ps.take (i + 1))).n = N := runK_n pl pg _ (bootK N)
  obtain ⟨p, hp, rfl, hr⟩ := mom_get hm
  have hpn := (hPk _ _ (ho i p hp)).1
  rw [hr] at hinv hkn'
  constructor
  · intro h8
    obtain ⟨a, h1, h2, h3⟩ := quantum_wait _ _ _ _ h8
    refine ⟨p, a, by omega, by omega, rfl, h2, ?_⟩
    unfold WaitedOk
    rw [hacc]
    exact h3
  · intro q hq h3 j hj h2 e
    have hw := (hinv.ci 0).wait
    have e' : (quantumK (runK pl pg (bootK N) (ps.take i)) p (pl p) (pg p)).wo j = 9 + (q : Int) := e
    rcases (hw j (by rw [hkn']; exact hj)).2 h2 with h | h | h | h | h | ⟨a, h, _, h4⟩
    · omega
    · omega
    · omega
    · omega
    · omega
    · have : a = q := by omega
      subst this
      exact h4 h3
end Go.Proofs.Ygdapg
