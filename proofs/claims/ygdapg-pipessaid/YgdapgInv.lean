/-
  THE KERNEL's INVARIANT, plain: kept by every quantum.
-/
import Derived.Test.YgdapgQ1
import Derived.Test.YgdapgB1
set_option linter.unusedSimpArgs false
set_option linter.unusedVariables false
namespace Go.Proofs.Ygdapg

/-- A wait-channel on which somebody may sleep. lp, lq: how much the pipes hold. -/
def Chan (n : Nat) (st : Nat → Int) (lp lq : Nat) (on : Int) : Prop :=
  (1 ≤ on ∧ on ≤ 4) ∨ (on = 5 ∧ lp = 3) ∨ (on = 6 ∧ lp = 0) ∨ (on = 7 ∧ lq = 3) ∨ (on = 8 ∧ lq = 0) ∨ ∃ a : Nat, on = 9 + (a : Int) ∧ a < n ∧ st a ≠ 3
def Waits (n : Nat) (st wo : Nat → Int) (lp lq : Nat) : Prop := ∀ i, i < n → (st i ≠ 2 → wo i = 0) ∧ (st i = 2 → Chan n st lp lq (wo i))

/-- The invariant while process p may be running. -/
structure CI (k : KS) (p : Nat) : Prop where
  hn : k.n ≤ 8
  st : ∀ i, i < k.n → k.st i = 0 ∨ k.st i = 2 ∨ k.st i = 3 ∨ (i = p ∧ k.st i = 1)
  pc : ∀ i, i < k.n → 0 ≤ k.pc i ∧ k.pc i ≤ 32
  pipe : k.pipe.length ≤ 3
  pipe2 : k.pipe2.length ≤ 3
  wait : Waits k.n k.st k.wo k.pipe.length k.pipe2.length

structure Inv (k : KS) : Prop where
  ci : ∀ p, CI k p
  nr : ∀ i, i < k.n → k.st i ≠ 1
  last : -1 ≤ k.last ∧ k.last < (k.n : Int)
  ticks : k.ticks = (k.trace.length : Int)
  tr : ∀ e, e ∈ k.trace → 0 ≤ e ∧ e ≤ 1000

theorem Chan.mono {n lp lq : Nat} {st st' : Nat → Int} {on : Int} (h : Chan n st lp lq on) (hs : ∀ a, a < n → st a ≠ 3 → on = 9 + (a : Int) → st' a ≠ 3) : Chan n st' lp lq on := by
  rcases h with h | h | h | h | h | ⟨a, h1, h2, h3⟩
  · exact .inl h
  · exact .inr (.inl h)
  · exact .inr (.inr (.inl h))
  · exact .inr (.inr (.inr (.inl h)))
  · exact .inr (.inr (.inr (.inr (.inl h))))
  · exact .inr (.inr (.inr (.inr (.inr ⟨a, h1, h2, hs a h2 h3 h1⟩))))

section
variable {k : KS} {p : Nat}

theorem CI.traced (h : CI k p) (kd : Int) : CI (traced k p kd) p := ⟨h.hn, h.st, h.pc, h.pipe, h.pipe2, h.wait⟩
theorem CI.accs (h : CI k p) (f : Nat → Int) : CI { k with acc := f } p := ⟨h.hn, h.st, h.pc, h.pipe, h.pipe2, h.wait⟩
theorem CI.pcInc (h : CI k p) (hp : p < k.n) (hc : k.pc p < 32) : CI (pcInc k p) p := by
  refine ⟨h.hn, h.st, fun i hi => ?_, h.pipe, h.pipe2, h.wait⟩
  have := h.pc i hi
  have h2 := h.pc p hp
  unfold Ygdapg.pcInc upd
  simp only []
  split <;> omega

theorem CI.sleep (h : CI k p) (hp : p < k.n) (h1 : k.st p = 1) {on : Int} (hc : Chan k.n k.st k.pipe.length k.pipe2.length on) : CI (sleepK k p on) p := by
  have key : ∀ a, k.st a ≠ 3 → upd k.st p 2 a ≠ 3 := fun a ha => by unfold upd; split <;> omega
  refine ⟨h.hn, fun i hi => ?_, h.pc, h.pipe, h.pipe2, fun i hi => ?_⟩
  · have := h.st i hi
    simp only [sleepK, upd]
    split <;> omega
  · obtain ⟨w1, w2⟩ := h.wait i hi
    by_cases e : i = p
    · subst e
      simp only [sleepK, upd_same]
      exact ⟨fun h => absurd rfl h, fun _ => hc.mono fun a _ h3 _ => key a h3⟩
    · simp only [sleepK, upd_ne _ _ e]
      exact ⟨w1, fun h2 => (w2 h2).mono fun a _ h3 _ => key a h3⟩

theorem wake_st (k : KS) (on : Int) (i : Nat) (hi : i < k.n) : (wake k on).st i = if k.st i = 2 ∧ k.wo i = on then 0 else k.st i := by
  simp [wake, wakeTo, hi]
theorem wake_wo (k : KS) (on : Int) (i : Nat) (hi : i < k.n) : (wake k on).wo i = if k.st i = 2 ∧ k.wo i = on then 0 else k.wo i := by
  simp [wake, wakeTo, hi]

/-- Waking on a channel: the pipes may turn as long as the other channels stay good. -/
theorem CI.wakeP (h : CI k p) (on : Int) (lp lq : Nat) (hl : ∀ c, c ≠ on → Chan k.n k.st k.pipe.length k.pipe2.length c → Chan k.n k.st lp lq c) :
    (∀ i, i < k.n → (wake k on).st i = 0 ∨ (wake k on).st i = 2 ∨ (wake k on).st i = 3 ∨ (i = p ∧ (wake k on).st i = 1)) ∧ Waits k.n (wake k on).st (wake k on).wo lp lq := by
  refine ⟨fun i hi => ?_, fun i hi => ?_⟩
  · have := h.st i hi
    rw [wake_st k on i hi]
    split <;> omega
  · obtain ⟨w1, w2⟩ := h.wait i hi
    rw [wake_st k on i hi, wake_wo k on i hi]
    by_cases e : k.st i = 2 ∧ k.wo i = on
    · rw [if_pos e, if_pos e]; exact ⟨fun _ => rfl, fun h => by omega⟩
    · rw [if_neg e, if_neg e]
      refine ⟨w1, fun h2 => ?_⟩
      have hne : k.wo i ≠ on := fun h3 => e ⟨h2, h3⟩
      exact (hl _ hne (w2 h2)).mono fun a ha h3 _ => by rw [wake_st k on a ha]; split <;> omega
theorem CI.wake (h : CI k p) (on : Int) : CI (wake k on) p := by
  obtain ⟨a, b⟩ := h.wakeP on k.pipe.length k.pipe2.length (fun _ _ h => h)
  exact ⟨h.hn, a, h.pc, h.pipe, h.pipe2, b⟩

theorem CI.exit (h : CI k p) (q : Nat) (hq : q < k.n) (s : Int) : CI (exitK k q s) p := by
  refine ⟨h.hn, fun i hi => ?_, h.pc, h.pipe, h.pipe2, fun i hi => ?_⟩
  · have := h.st i hi
    have e := wake_st { k with wo := upd k.wo q 0, st := upd k.st q 3, su := upd k.su q s } (9 + (q : Int)) i hi
    have e' : (exitK k q s).st i = _ := e
    rw [e']
    simp only [upd]
    split <;> (try split) <;> omega
  · obtain ⟨w1, w2⟩ := h.wait i hi
    have e1 : (exitK k q s).st i = _ := wake_st { k with wo := upd k.wo q 0, st := upd k.st q 3, su := upd k.su q s } (9 + (q : Int)) i hi
    have e2 : (exitK k q s).wo i = _ := wake_wo { k with wo := upd k.wo q 0, st := upd k.st q 3, su := upd k.su q s } (9 + (q : Int)) i hi
    rw [e1, e2]
    by_cases e : i = q
    · subst e
      simp only [upd_same]
      exact ⟨fun _ => by split <;> rfl, fun h => by simp at h⟩
    · simp only [upd_ne _ _ e]
      by_cases hw : k.st i = 2 ∧ k.wo i = 9 + (q : Int)
      · rw [if_pos hw, if_pos hw]; exact ⟨fun _ => rfl, fun h => by omega⟩
      · rw [if_neg hw, if_neg hw]
        refine ⟨w1, fun h2 => (w2 h2).mono fun a ha h3 he => ?_⟩
        have hne : a ≠ q := fun h4 => hw ⟨h2, by rw [he, h4]⟩
        have e3 : (exitK k q s).st a = _ := wake_st { k with wo := upd k.wo q 0, st := upd k.st q 3, su := upd k.su q s } (9 + (q : Int)) a ha
        rw [e3]
        simp only [upd_ne _ _ hne]
        split <;> omega

theorem CI.put (h : CI k p) (hp : p < k.n) (h1 : k.st p = 1) (hc : k.pc p < 32) (b : Bool) (f e : Int) (hf : (b = true ∧ f = 5 ∧ e = 6) ∨ (b = false ∧ f = 7 ∧ e = 8)) : CI (putK k p b f e) p := by
  unfold putK
  have hpc := h.pcInc hp hc
  rcases hf with ⟨rfl, rfl, rfl⟩ | ⟨rfl, rfl, rfl⟩
  · have hl := h.pipe
    by_cases h3 : 3 ≤ (pget k true).length
    · rw [if_pos h3]; have h3 : 3 ≤ k.pipe.length := h3; exact h.sleep hp h1 (.inr (.inl ⟨rfl, by omega⟩))
    · rw [if_neg h3]
      have h3 : ¬ 3 ≤ k.pipe.length := h3
      obtain ⟨a, c⟩ := hpc.wakeP 6 (k.pipe.length + 1) k.pipe2.length (fun c hc h => by
        rcases h with h | h | h | h | h | h
        · exact .inl h
        · have : k.pipe.length = 3 := h.2; omega
        · exact absurd h.1 hc
        · exact .inr (.inr (.inr (.inl h)))
        · exact .inr (.inr (.inr (.inr (.inl h))))
        · exact .inr (.inr (.inr (.inr (.inr h)))))
      refine ⟨h.hn, a, hpc.pc, ?_, h.pipe2, ?_⟩
      · simp [pset]; omega
      · show Waits _ _ _ (k.pipe ++ [k.acc p]).length _
        rw [show (k.pipe ++ [k.acc p]).length = k.pipe.length + 1 by simp]
        exact c
  · have hl := h.pipe2
    by_cases h3 : 3 ≤ (pget k false).length
    · rw [if_pos h3]; have h3 : 3 ≤ k.pipe2.length := h3; exact h.sleep hp h1 (.inr (.inr (.inr (.inl ⟨rfl, by omega⟩))))
    · rw [if_neg h3]
      have h3 : ¬ 3 ≤ k.pipe2.length := h3
      obtain ⟨a, c⟩ := hpc.wakeP 8 k.pipe.length (k.pipe2.length + 1) (fun c hc h => by
        rcases h with h | h | h | h | h | h
        · exact .inl h
        · exact .inr (.inl h)
        · exact .inr (.inr (.inl h))
        · have : k.pipe2.length = 3 := h.2; omega
        · exact absurd h.1 hc
        · exact .inr (.inr (.inr (.inr (.inr h)))))
      refine ⟨h.hn, a, hpc.pc, h.pipe, ?_, ?_⟩
      · simp [pset]; omega
      · show Waits _ _ _ _ (k.pipe2 ++ [k.acc p]).length
        rw [show (k.pipe2 ++ [k.acc p]).length = k.pipe2.length + 1 by simp]
        exact c

theorem CI.take (h : CI k p) (hp : p < k.n) (h1 : k.st p = 1) (hc : k.pc p < 32) (b : Bool) (f e : Int) (hf : (b = true ∧ f = 5 ∧ e = 6) ∨ (b = false ∧ f = 7 ∧ e = 8)) : CI (takeK k p b f e) p := by
  unfold takeK
  rcases hf with ⟨rfl, rfl, rfl⟩ | ⟨rfl, rfl, rfl⟩
  · have hl := h.pipe
    simp only [pget]
    split
    · rename_i he
      exact h.sleep hp h1 (.inr (.inr (.inl ⟨rfl, by rw [he]; rfl⟩)))
    · rename_i x r he
      have hlen : k.pipe.length = r.length + 1 := by rw [he]; rfl
      have hpc := (h.accs (upd k.acc p (Go.RowKit.wrap64 (k.acc p + x)))).pcInc hp hc
      obtain ⟨a, c⟩ := hpc.wakeP 5 r.length k.pipe2.length (fun c hc h => by
        rcases h with h | h | h | h | h | h
        · exact .inl h
        · exact absurd h.1 hc
        · have : k.pipe.length = 0 := h.2; omega
        · exact .inr (.inr (.inr (.inl h)))
        · exact .inr (.inr (.inr (.inr (.inl h))))
        · exact .inr (.inr (.inr (.inr (.inr h)))))
      refine ⟨h.hn, a, hpc.pc, ?_, h.pipe2, ?_⟩
      · simp [pset]; omega
      · exact c
  · have hl := h.pipe2
    simp only [pget]
    split
    · rename_i he
      exact h.sleep hp h1 (.inr (.inr (.inr (.inr (.inl ⟨rfl, by rw [he]; rfl⟩)))))
    · rename_i x r he
      have hlen : k.pipe2.length = r.length + 1 := by rw [he]; rfl
      have hpc := (h.accs (upd k.acc p (Go.RowKit.wrap64 (k.acc p + x)))).pcInc hp hc
      obtain ⟨a, c⟩ := hpc.wakeP 7 k.pipe.length r.length (fun c hc h => by
        rcases h with h | h | h | h | h | h
        · exact .inl h
        · exact .inr (.inl h)
        · exact .inr (.inr (.inl h))
        · exact absurd h.1 hc
        · have : k.pipe2.length = 0 := h.2; omega
        · exact .inr (.inr (.inr (.inr (.inr h)))))
      refine ⟨h.hn, a, hpc.pc, h.pipe, ?_, ?_⟩
      · simp [pset]; omega
      · exact c

theorem CI.await (h : CI k p) (hp : p < k.n) (h1 : k.st p = 1) (hc : k.pc p < 32) (a : Nat) (ha : a < k.n) : CI (awaitK k p a) p := by
  unfold awaitK
  split
  · exact (h.accs _).pcInc hp hc
  · rename_i h3
    exact h.sleep hp h1 (.inr (.inr (.inr (.inr (.inr ⟨a, rfl, ha, h3⟩)))))

/-- What fetch gives: where the program counter is not at the end there is room to count on; the operands are good. -/
theorem fetchK_good (n l : Nat) (g : Nat → Int × Int) (pc : Nat) (hl : l ≤ 32) : ((fetchK n l g pc).1 ≠ 6 → pc < 32) ∧
    ((fetchK n l g pc).1 = 2 ∨ (fetchK n l g pc).1 = 3 → 1 ≤ (fetchK n l g pc).2.1 ∧ (fetchK n l g pc).2.1 ≤ 4) ∧
    ((fetchK n l g pc).1 = 7 ∨ (fetchK n l g pc).1 = 8 → 0 ≤ (fetchK n l g pc).2.1 ∧ (fetchK n l g pc).2.1 < (n : Int)) ∧ 0 ≤ (fetchK n l g pc).1 ∧ (fetchK n l g pc).1 ≤ 10 := by
  unfold fetchK
  split
  · simp
  split
  · simp
  split
  · simp
  split
  · simp
  · rename_i h1 h2 h3 h4
    simp only []
    exact ⟨fun _ => by omega, fun h => by omega, fun h => by omega, by omega, by omega⟩

theorem CI.act (h : CI k p) (hp : p < k.n) (h1 : k.st p = 1) (kd a : Int) (ok : Bool) (hc : kd ≠ 6 → k.pc p < 32) (h23 : kd = 2 ∨ kd = 3 → 1 ≤ a ∧ a ≤ 4) (h78 : kd = 7 ∨ kd = 8 → 0 ≤ a ∧ a < (k.n : Int)) (hr : 0 ≤ kd ∧ kd ≤ 10) : CI (actK k p kd a ok) p := by
  unfold actK
  split
  · exact (h.accs _).pcInc hp (hc (by omega))
  split
  · exact h.pcInc hp (hc (by omega))
  split
  · have h2 := h23 (by omega)
    exact (h.pcInc hp (hc (by omega))).sleep hp h1 (.inl h2)
  split
  · exact (h.pcInc hp (hc (by omega))).wake a
  split
  · exact h.put hp h1 (hc (by omega)) true 5 6 (.inl ⟨rfl, rfl, rfl⟩)
  split
  · exact h.take hp h1 (hc (by omega)) true 5 6 (.inl ⟨rfl, rfl, rfl⟩)
  split
  · exact h.put hp h1 (hc (by omega)) false 7 8 (.inr ⟨rfl, rfl, rfl⟩)
  split
  · exact h.take hp h1 (hc (by omega)) false 7 8 (.inr ⟨rfl, rfl, rfl⟩)
  split
  · have h2 := h78 (by omega)
    exact (h.pcInc hp (hc (by omega))).exit a.toNat (by show a.toNat < k.n; omega) _
  split
  · have h2 := h78 (by omega)
    exact h.await hp h1 (hc (by omega)) a.toNat (by omega)
  · exact h.exit p hp _
end

theorem Inv.setRun {k : KS} (h : Inv k) (p : Nat) (hp : p < k.n) (h0 : k.st p = 0) : CI (setRun k p) p := by
  have c := h.ci p
  refine ⟨c.hn, fun i hi => ?_, c.pc, c.pipe, c.pipe2, fun i hi => ?_⟩
  · have := c.st i hi
    have := h.nr i hi
    simp only [Ygdapg.setRun, upd]
    split <;> omega
  · obtain ⟨w1, w2⟩ := c.wait i hi
    by_cases e : i = p
    · subst e
      simp only [Ygdapg.setRun, upd_same]
      exact ⟨fun _ => w1 (by omega), fun h => by omega⟩
    · simp only [Ygdapg.setRun, upd_ne _ _ e]
      exact ⟨w1, fun h2 => (w2 h2).mono fun a ha h3 _ => by unfold upd; split <;> omega⟩

theorem CI.settle {k : KS} {p : Nat} (h : CI k p) (hp : p < k.n) : (∀ q, CI (settleK k p) q) ∧ ∀ i, i < k.n → (settleK k p).st i ≠ 1 := by
  have hs : ∀ i, i < k.n → (settleK k p).st i = if i = p ∧ k.st p = 1 then 0 else k.st i := fun i hi => by
    unfold settleK
    simp only []
    by_cases h1 : k.st p = 1
    · rw [if_pos h1]
      by_cases e : i = p
      · subst e; simp [upd, h1]
      · simp [upd, e]
    · rw [if_neg h1, if_neg (fun h => h1 h.2)]
  refine ⟨fun q => ⟨h.hn, fun i hi => ?_, h.pc, h.pipe, h.pipe2, fun i hi => ?_⟩, fun i hi => ?_⟩
  · have h2 := h.st i hi
    rw [hs i hi]
    split <;> (try omega)
    rename_i hne
    rcases h2 with h2 | h2 | h2 | ⟨rfl, h2⟩
    · exact .inl h2
    · exact .inr (.inl h2)
    · exact .inr (.inr (.inl h2))
    · exact absurd ⟨rfl, h2⟩ hne
  · obtain ⟨w1, w2⟩ := h.wait i hi
    have hw : (settleK k p).wo i = k.wo i := rfl
    rw [hs i hi, hw]
    by_cases e : i = p ∧ k.st p = 1
    · rw [if_pos e]
      exact ⟨fun _ => w1 (by rw [e.1]; omega), fun h => by omega⟩
    · rw [if_neg e]
      exact ⟨w1, fun h2 => (w2 h2).mono fun a ha h3 _ => by rw [hs a ha]; split <;> omega⟩
  · rw [hs i hi]
    have h2 := h.st i hi
    split
    · omega
    · rename_i hne
      rcases h2 with h2 | h2 | h2 | ⟨rfl, h2⟩
      · omega
      · omega
      · omega
      · exact absurd ⟨rfl, h2⟩ hne

theorem Inv.quantum {k : KS} (h : Inv k) (p l : Nat) (g : Nat → Int × Int) (hp : p < k.n) (h0 : k.st p = 0) (hl : l ≤ 32) : Inv (quantumK k p l g) := by
  have hr := h.setRun p hp h0
  have hn8 := (h.ci p).hn
  have hg := fetchK_good k.n l g (k.pc p).toNat hl
  have hpc := (h.ci p).pc p hp
  have hact : CI (stepK (Ygdapg.setRun k p) p l g) p := by
    unfold stepK
    refine (hr.traced _).act hp (upd_same _ _ _) _ _ _ (fun hk => ?_) hg.2.1 hg.2.2.1 hg.2.2.2
    have := hg.1 hk
    show k.pc p < 32
    omega
  have hn : (stepK (Ygdapg.setRun k p) p l g).n = k.n := stepK_n _ _ _ _
  obtain ⟨s1, s2⟩ := hact.settle (by rw [hn]; exact hp)
  refine ⟨s1, fun i hi => s2 i hi, ?_, ?_, fun e he => ?_⟩
  · show -1 ≤ (p : Int) ∧ (p : Int) < ((stepK (Ygdapg.setRun k p) p l g).n : Int)
    rw [hn]; omega
  · show (stepK (Ygdapg.setRun k p) p l g).ticks + 1 = ((stepK (Ygdapg.setRun k p) p l g).trace.length : Int)
    rw [stepK_ticks, stepK_trace]
    have := h.ticks
    simp [Ygdapg.setRun]
    omega
  · have he' : e ∈ (stepK (Ygdapg.setRun k p) p l g).trace := he
    rw [stepK_trace] at he'
    rcases List.mem_append.1 he' with h2 | h2
    · exact h.tr e h2
    · have h3 : e = (p : Int) * 16 + (fetchK k.n l g (k.pc p).toNat).1 := List.mem_singleton.1 h2
      have := hg.2.2.2
      omega

theorem Inv.boot (n : Nat) (hn : n ≤ 8) : Inv (bootK n) := by
  refine ⟨fun p => ⟨hn, fun i _ => .inl rfl, fun i _ => by simp [bootK], by simp [bootK], by simp [bootK], fun i _ => ⟨fun _ => rfl, fun h => by simp [bootK] at h⟩⟩, fun i _ => by simp [bootK], ?_, rfl, fun e he => by simp [bootK] at he⟩
  simp [bootK]; omega
end Go.Proofs.Ygdapg
