/-
  THE LAW Ends, plain.
-/
import Derived.Test.YgdapgM1
set_option linter.unusedSimpArgs false
set_option linter.unusedVariables false
namespace Go.Proofs.Ygdapg

theorem fetchK_plain (n l : Nat) (g : Nat → Int × Int) (pc : Nat) (hp : ∀ j, j < l → PlainK (g j).1) :
    (fetchK n l g pc).1 = 0 ∨ (fetchK n l g pc).1 = 1 ∨ (fetchK n l g pc).1 = 3 ∨ (fetchK n l g pc).1 = 6 := by
  unfold fetchK
  split
  · simp
  rename_i h
  obtain ⟨a1, a2, a3, a4, a5, a6, a7⟩ := hp pc (by omega)
  split
  · simp
  split
  · simp
  split
  · simp
  · simp only []; omega

theorem fetchK_end (n l : Nat) (g : Nat → Int × Int) (pc : Nat) (h : l ≤ pc) : (fetchK n l g pc).1 = 6 := by
  unfold fetchK; rw [if_pos h]

theorem settle_st (k : KS) (p i : Nat) : (settleK k p).st i = if i = p ∧ k.st p = 1 then 0 else k.st i := by
  unfold settleK
  simp only []
  by_cases h1 : k.st p = 1
  · rw [if_pos h1]
    by_cases e : i = p
    · subst e; simp [upd, h1]
    · simp [upd, e]
  · rw [if_neg h1, if_neg (fun h => h1 h.2)]

theorem quantum_plain (k : KS) (p l : Nat) (g : Nat → Int × Int) (hp : p < k.n) (hs : ∀ i, i < k.n → k.st i = 0 ∨ k.st i = 3) (h0 : k.st p = 0)
    (hk : (fetchK k.n l g (k.pc p).toNat).1 = 0 ∨ (fetchK k.n l g (k.pc p).toNat).1 = 1 ∨ (fetchK k.n l g (k.pc p).toNat).1 = 3 ∨ (fetchK k.n l g (k.pc p).toNat).1 = 6) (i : Nat) (hi : i < k.n) :
    (quantumK k p l g).st i = (if i = p ∧ (fetchK k.n l g (k.pc p).toNat).1 = 6 then 3 else k.st i) ∧
    (quantumK k p l g).pc i = (if i = p ∧ (fetchK k.n l g (k.pc p).toNat).1 ≠ 6 then k.pc p + 1 else k.pc i) := by
  have e : quantumK k p l g = settleK (actK (traced (setRun k p) p (fetchK k.n l g (k.pc p).toNat).1) p (fetchK k.n l g (k.pc p).toNat).1 (fetchK k.n l g (k.pc p).toNat).2.1 (fetchK k.n l g (k.pc p).toNat).2.2) p := rfl
  rw [e]
  generalize (fetchK k.n l g (k.pc p).toNat).1 = kd at *
  generalize (fetchK k.n l g (k.pc p).toNat).2.1 = a at *
  generalize (fetchK k.n l g (k.pc p).toNat).2.2 = ok at *
  have hsi := hs i hi
  rcases hk with rfl | rfl | rfl | rfl
  · constructor
    · rw [settle_st]
      simp only [actK, pcInc, traced, setRun, if_true, upd]
      by_cases e : i = p <;> simp [e, h0, upd]
    · simp only [actK, pcInc, traced, setRun, if_true, settleK, upd]
      by_cases e : i = p <;> simp [e, upd]
  · constructor
    · rw [settle_st]
      simp only [actK, pcInc, traced, setRun, upd]
      by_cases e : i = p <;> simp [e, h0, upd]
    · simp only [actK, pcInc, traced, setRun, settleK, upd]
      by_cases e : i = p <;> simp [e, upd]
  · constructor
    · rw [settle_st]
      have w1 := wake_st (pcInc (traced (setRun k p) p 3) p) a i hi
      have w2 := wake_st (pcInc (traced (setRun k p) p 3) p) a p hp
      simp only [actK]
      simp only [show (3 : Int) ≠ 0 by decide, show (3 : Int) ≠ 1 by decide, show (3 : Int) ≠ 2 by decide, if_false, if_true]
      rw [w1, w2]
      simp only [pcInc, traced, setRun, upd]
      by_cases e : i = p
      · simp [e, h0]
      · have : k.st i ≠ 2 := by omega
        simp [e, this]
    · simp only [actK, pcInc, traced, setRun, settleK, upd, wake, wakeTo]
      by_cases e : i = p <;> simp [e, upd]
  · constructor
    · rw [settle_st]
      have w1 : (exitK (traced (setRun k p) p 6) p (if ok = true then (traced (setRun k p) p 6).acc p else -1)).st i = _ :=
        wake_st { traced (setRun k p) p 6 with wo := upd (traced (setRun k p) p 6).wo p 0, st := upd (traced (setRun k p) p 6).st p 3, su := upd (traced (setRun k p) p 6).su p (if ok = true then (traced (setRun k p) p 6).acc p else -1) } (9 + (p : Int)) i hi
      have w2 : (exitK (traced (setRun k p) p 6) p (if ok = true then (traced (setRun k p) p 6).acc p else -1)).st p = _ :=
        wake_st { traced (setRun k p) p 6 with wo := upd (traced (setRun k p) p 6).wo p 0, st := upd (traced (setRun k p) p 6).st p 3, su := upd (traced (setRun k p) p 6).su p (if ok = true then (traced (setRun k p) p 6).acc p else -1) } (9 + (p : Int)) p hp
      simp only [actK]
      simp only [show (6 : Int) ≠ 0 by decide, show (6 : Int) ≠ 1 by decide, show (6 : Int) ≠ 2 by decide, show (6 : Int) ≠ 3 by decide, show (6 : Int) ≠ 4 by decide, show (6 : Int) ≠ 5 by decide, show (6 : Int) ≠ 9 by decide, show (6 : Int) ≠ 10 by decide, show (6 : Int) ≠ 7 by decide, show (6 : Int) ≠ 8 by decide, if_false]
      rw [w1, w2]
      simp only [traced, setRun, upd]
      by_cases e : i = p
      · simp [e]
      · have : k.st i ≠ 2 := by omega
        simp [e, this]
    · simp only [actK, exitK, traced, setRun, settleK, wake, wakeTo]
      simp

/-! ### Counting -/
def pcnt (ps : List Nat) (p : Nat) : Nat := ps.count p
theorem pcnt_snoc (ps : List Nat) (p q : Nat) : pcnt (ps ++ [p]) q = pcnt ps q + if q = p then 1 else 0 := by
  unfold pcnt
  rw [List.count_append, List.count_singleton]
  by_cases h : q = p
  · subst h; simp
  · have h' : p ≠ q := fun e => h e.symm
    simp [h, h']

def ends_T (N : Nat) (pl : Nat → Nat) (pg : Nat → Nat → Int × Int) (p c : Nat) : Int := (fetchK N (pl p) (pg p) c).1

/-- What holds after the quanta ps of plain programs. -/
structure EndI (N : Nat) (pl : Nat → Nat) (pg : Nat → Nat → Int × Int) (ps : List Nat) : Prop where
  st : ∀ i, i < N → ((runK pl pg (bootK N) ps).st i = 0 ∧ (runK pl pg (bootK N) ps).pc i = (pcnt ps i : Nat) ∧ ∀ c, c < pcnt ps i → ends_T N pl pg i c ≠ 6) ∨
    ((runK pl pg (bootK N) ps).st i = 3 ∧ 0 < pcnt ps i ∧ ends_T N pl pg i (pcnt ps i - 1) = 6 ∧ ∀ c, c < pcnt ps i - 1 → ends_T N pl pg i c ≠ 6)
  tr : ∀ j p, ps[j]? = some p → p < N ∧ (runK pl pg (bootK N) ps).trace[j]? = some ((p : Int) * 16 + ends_T N pl pg p (pcnt (ps.take j) p)) ∧ ∀ c, c < pcnt (ps.take j) p → ends_T N pl pg p c ≠ 6

theorem EndI.nil (N : Nat) (pl : Nat → Nat) (pg : Nat → Nat → Int × Int) : EndI N pl pg [] :=
  ⟨fun i _ => .inl ⟨rfl, rfl, fun c hc => by simp [pcnt] at hc⟩, fun j p h => by simp at h⟩

theorem EndI.snoc {N : Nat} {pl : Nat → Nat} {pg : Nat → Nat → Int × Int} {ps : List Nat} (h : EndI N pl pg ps) (hpl : ∀ i, i < N → ∀ j, j < pl i → PlainK (pg i j).1) (p : Nat) (hp : p < N) (h0 : (runK pl pg (bootK N) ps).st p = 0) : EndI N pl pg (ps ++ [p]) := by
  have hn : (runK pl pg (bootK N) ps).n = N := runK_n pl pg ps (bootK N)
  have hpc : (runK pl pg (bootK N) ps).pc p = (pcnt ps p : Nat) ∧ ∀ c, c < pcnt ps p → ends_T N pl pg p c ≠ 6 := by
    rcases h.st p hp with h1 | h1
    · exact h1.2
    · omega
  have hT : (fetchK (runK pl pg (bootK N) ps).n (pl p) (pg p) ((runK pl pg (bootK N) ps).pc p).toNat).1 = ends_T N pl pg p (pcnt ps p) := by
    rw [hn, hpc.1]; rfl
  have hq := quantum_plain (runK pl pg (bootK N) ps) p (pl p) (pg p) (by rw [hn]; exact hp) (fun i hi => by rcases h.st i (by rw [← hn]; exact hi) with h1 | h1; exact .inl h1.1; exact .inr h1.1) h0 (fetchK_plain _ _ _ _ (hpl p hp))
  rw [hT] at hq
  have hlen : (runK pl pg (bootK N) ps).trace.length = ps.length := by rw [runK_trace_len]; simp [bootK]
  refine ⟨fun i hi => ?_, fun j q hj => ?_⟩
  · rw [runK_snoc, pcnt_snoc]
    obtain ⟨q1, q2⟩ := hq i (by rw [hn]; exact hi)
    show ((quantumK _ p (pl p) (pg p)).st i = 0 ∧ (quantumK _ p (pl p) (pg p)).pc i = _ ∧ _) ∨ ((quantumK _ p (pl p) (pg p)).st i = 3 ∧ _)
    rw [q1, q2]
    by_cases e : i = p
    · subst e
      simp only [true_and, if_true]
      by_cases h6 : ends_T N pl pg i (pcnt ps i) = 6
      · right
        rw [if_pos h6]
        exact ⟨rfl, by omega, by simpa using h6, fun c hc => hpc.2 c (by omega)⟩
      · left
        rw [if_neg h6, if_pos h6]
        refine ⟨h0, by rw [hpc.1]; omega, fun c hc => ?_⟩
        by_cases hce : c = pcnt ps i
        · rw [hce]; exact h6
        · exact hpc.2 c (by omega)
    · simp only [e, false_and, if_false, Nat.add_zero]
      exact h.st i hi
  · rw [runK_snoc]
    show q < N ∧ (quantumK _ p (pl p) (pg p)).trace[j]? = _ ∧ _
    rw [quantumK_trace, hT]
    rcases Nat.lt_trichotomy j ps.length with hlt | heq | hgt
    · rw [List.getElem?_append_left hlt] at hj
      rw [List.getElem?_append_left (by omega), List.take_append_of_le_length (by omega)]
      exact h.tr j q hj
    · subst heq
      have : q = p := by simpa using hj.symm
      subst this
      rw [List.take_append_of_le_length (Nat.le_refl _), List.take_length]
      refine ⟨hp, ?_, hpc.2⟩
      rw [← hlen]; simp
    · rw [List.getElem?_append_right (by omega), List.getElem?_eq_none (by simp; omega)] at hj
      cases hj

theorem endI_of {N : Nat} {pl : Nat → Nat} {pg : Nat → Nat → Int × Int} (hpl : ∀ i, i < N → ∀ j, j < pl i → PlainK (pg i j).1) (ps : List Nat) (ho : PicksOk PickOk pl pg (bootK N) ps) : ∀ m, m ≤ ps.length → EndI N pl pg (ps.take m)
  | 0, _ => by simpa using EndI.nil N pl pg
  | m + 1, hm => by
    have ih := endI_of hpl ps ho m (by omega)
    have hm' : m < ps.length := by omega
    have e : ps.take (m + 1) = ps.take m ++ [ps[m]] := by rw [List.take_succ_eq_append_getElem hm']
    obtain ⟨p1, p2⟩ := pickOk_picks _ _ (ho m ps[m] (by simp [hm']))
    rw [runK_n] at p1
    rw [e]
    exact ih.snoc hpl _ p1 p2

/-! ### The sum -/
theorem sum_pcnt (N : Nat) : ∀ (ps : List Nat), (∀ p ∈ ps, p < N) → sumTo (pcnt ps) N = ps.length := by
  intro ps
  have key : ∀ (ps : List Nat) (p m : Nat), sumTo (pcnt (p :: ps)) m = sumTo (pcnt ps) m + if p < m then 1 else 0 := by
    intro ps p m
    induction m with
    | zero => simp [sumTo]
    | succ m ih =>
      simp only [sumTo, ih]
      have : pcnt (p :: ps) m = pcnt ps m + if p = m then 1 else 0 := by
        unfold pcnt; rw [List.count_cons]; simp
      rw [this]
      by_cases h1 : p < m
      · have : p ≠ m := by omega
        simp [h1, this, show p < m + 1 by omega]; omega
      · by_cases h2 : p = m
        · simp [h2]; omega
        · simp [h1, h2, show ¬ p < m + 1 by omega]
  induction ps with
  | nil =>
    intro _
    have : ∀ m, sumTo (pcnt []) m = 0 := by
      intro m
      induction m with
      | zero => rfl
      | succ m ih => simp [sumTo, ih, pcnt]
    simp [this]
  | cons p ps ih =>
    intro h
    rw [key, ih (fun q hq => h q (by simp [hq])), if_pos (h p (by simp))]
    simp

theorem sumTo_mono {f g : Nat → Nat} : ∀ n, (∀ i, i < n → f i ≤ g i + 1) → sumTo f n ≤ sumTo g n + n
  | 0, _ => by simp [sumTo]
  | n + 1, h => by
    have := sumTo_mono n (fun i hi => h i (by omega))
    have := h n (by omega)
    simp only [sumTo]; omega
theorem sumTo_lt {f g : Nat → Nat} {j : Nat} (hj : f j ≤ g j) : ∀ n, j < n → (∀ i, i < n → f i ≤ g i + 1) → sumTo f n < sumTo g n + n
  | n + 1, h, hle => by
    simp only [sumTo]
    by_cases e : j = n
    · subst e
      have := sumTo_mono (f := f) (g := g) j (fun i hi => hle i (by omega))
      omega
    · have := sumTo_lt hj n (by omega) (fun i hi => hle i (by omega))
      have := hle n (by omega)
      omega

/-- THE LAW: every process ends a zombie, and its entries of the trace are its kinds in order. -/
theorem ends_plain {N : Nat} {pl : Nat → Nat} {pg : Nat → Nat → Int × Int} {q : Int} (hm : MustEnd N pl pg q) (ps : List Nat) (ho : PicksOk PickOk pl pg (bootK N) ps)
    (hend : (ps.length : Int) = q ∨ ((ps.length : Int) ≤ q ∧ PickOk (runK pl pg (bootK N) ps) (-1))) :
    (∀ i, i < N → (runK pl pg (bootK N) ps).st i = 3) ∧ ∀ p, p < N → RanOk (fun i => (runK pl pg (bootK N) ps).trace.getD i 0) (runK pl pg (bootK N) ps).trace.length p (fun c => (fetchK N (pl p) (pg p) c).1) := by
  obtain ⟨hplain, hq⟩ := hm
  have hE := endI_of hplain ps ho ps.length (Nat.le_refl _)
  rw [List.take_length] at hE
  have hn : (runK pl pg (bootK N) ps).n = N := runK_n pl pg ps (bootK N)
  have hcle : ∀ i, i < N → pcnt ps i ≤ pl i + 1 ∧ ((runK pl pg (bootK N) ps).st i = 0 → pcnt ps i ≤ pl i) := by
    intro i hi
    rcases hE.st i hi with ⟨h1, _, h3⟩ | ⟨h1, h2, _, h3⟩
    · have : pcnt ps i ≤ pl i := by
        rcases Nat.lt_or_ge (pl i) (pcnt ps i) with h | h
        · exact absurd (fetchK_end N (pl i) (pg i) (pl i) (Nat.le_refl _)) (h3 (pl i) h)
        · exact h
      exact ⟨by omega, fun _ => this⟩
    · refine ⟨?_, fun h => by omega⟩
      rcases Nat.lt_or_ge (pl i) (pcnt ps i - 1) with h | h
      · exact absurd (fetchK_end N (pl i) (pg i) (pl i) (Nat.le_refl _)) (h3 (pl i) h)
      · omega
  have hst : ∀ i, i < N → (runK pl pg (bootK N) ps).st i = 3 := by
    intro i hi
    rcases hE.st i hi with ⟨h1, _⟩ | ⟨h1, _⟩
    · exfalso
      rcases hend with hend | ⟨_, hend⟩
      · have h2 := sumTo_lt (f := pcnt ps) (g := pl) (j := i) ((hcle i hi).2 h1) N hi (fun j hj => (hcle j hj).1)
        have h3 := sum_pcnt N ps (fun p hp => by
          obtain ⟨j, hj⟩ := List.getElem?_of_mem hp
          exact (hE.tr j p hj).1)
        omega
      · rcases hend with ⟨_, h2⟩ | ⟨x, hx, _⟩
        · exact h2 i (by rw [hn]; exact hi) h1
        · omega
    · exact h1
  refine ⟨hst, fun p hp => ?_⟩
  have hlen : (runK pl pg (bootK N) ps).trace.length = ps.length := by rw [runK_trace_len]; simp [bootK]
  have hTr : ∀ p c, 0 ≤ ends_T N pl pg p c ∧ ends_T N pl pg p c ≤ 10 := fun p c => by
    have := fetchK_range N (pl p) (pg p) c
    exact ⟨this.1, this.2.1⟩
  have htr : ∀ j, j < ps.length → ∃ r, ps[j]? = some r ∧ (runK pl pg (bootK N) ps).trace.getD j 0 = (r : Int) * 16 + ends_T N pl pg r (pcnt (ps.take j) r) := fun j hj => by
    refine ⟨ps[j], by simp [hj], ?_⟩
    have := (hE.tr j ps[j] (by simp [hj])).2.1
    simp [List.getD, this]
  have hc : ∀ j, j ≤ ps.length → cntp (fun i => (runK pl pg (bootK N) ps).trace.getD i 0) p j = pcnt (ps.take j) p := by
    intro j
    induction j with
    | zero => intro _; simp [cntp, pcnt]
    | succ j ih =>
      intro hj
      have hj' : j < ps.length := by omega
      rw [List.take_succ_eq_append_getElem hj', pcnt_snoc]
      simp only [cntp]
      rw [ih (by omega)]
      obtain ⟨r, h1, h2⟩ := htr j hj'
      have hr : ps[j] = r := by simpa [hj'] using h1
      rw [hr]
      have h3 := hTr r (pcnt (ps.take j) r)
      have hiff : ((fun i => (runK pl pg (bootK N) ps).trace.getD i 0) j / 16 = (p : Int)) ↔ p = r := by
        show ((runK pl pg (bootK N) ps).trace.getD j 0 / 16 = (p : Int)) ↔ p = r
        rw [h2]; omega
      by_cases e : p = r
      · rw [if_pos (hiff.2 e), if_pos e]
      · rw [if_neg (fun h => e (hiff.1 h)), if_neg e]
  refine ⟨fun i hi he => ?_, ?_⟩
  · rw [hlen] at hi
    rw [hc i (by omega)]
    obtain ⟨r, h1, h2⟩ := htr i hi
    have h3 := hTr r (pcnt (ps.take i) r)
    have he' : ((r : Int) * 16 + ends_T N pl pg r (pcnt (ps.take i) r)) / 16 = (p : Int) := by rw [← h2]; exact he
    have hrp : r = p := by omega
    subst hrp
    refine ⟨?_, fun hx => ?_⟩
    · show (runK pl pg (bootK N) ps).trace.getD i 0 % 16 = ends_T N pl pg r (pcnt (ps.take i) r)
      rw [h2]; omega
    · exact (hE.tr i r h1).2.2 (pcnt (ps.take i) r - 1) (by omega) hx.2
  · rw [hlen, hc ps.length (Nat.le_refl _), List.take_length]
    rcases hE.st p hp with ⟨h1, _⟩ | ⟨_, h2, h3, _⟩
    · have := hst p hp; omega
    · exact ⟨h2, h3⟩
end Go.Proofs.Ygdapg
