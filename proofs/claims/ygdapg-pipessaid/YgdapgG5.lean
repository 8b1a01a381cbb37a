/-
  Pipes: the plain law.
-/
import Derived.Test.YgdapgG4
set_option linter.unusedSimpArgs false
set_option linter.unusedVariables false
namespace Go.Proofs.Ygdapg
open Go.RowKit

theorem picksOf {Pk : KS → Int → Prop} {pl : Nat → Nat} {pg : Nat → Nat → Int × Int} {k : KS} {ps : List Nat} (ho : PicksOk Pk pl pg k ps) (i : Nat) : PicksOk Pk pl pg k (ps.take i) := fun j p hp => by
  by_cases hj : j < i
  · rw [List.getElem?_take_of_lt hj] at hp
    rw [List.take_take, Nat.min_eq_left (by omega)]
    exact ho j p hp
  · have := (List.getElem?_eq_some_iff.1 hp).1
    simp at this; omega
theorem accOf_run {pl : Nat → Nat} {pg : Nat → Nat → Int × Int} {N : Nat} {ps : List Nat} : ∀ i, i ≤ ps.length → ∀ q, accOf (momK pl pg (bootK N) ps) i q = (runK pl pg (bootK N) (ps.take i)).acc q
  | 0, _, q => rfl
  | i + 1, hi, q => by
    obtain ⟨m, hm⟩ : ∃ m, (momK pl pg (bootK N) ps)[i]? = some m := ⟨_, List.getElem?_eq_getElem (by rw [momK_length]; omega)⟩
    rw [accOf_succ hm]
    obtain ⟨p, hp, rfl, hr⟩ := mom_get hm
    rw [hr]
    rfl

/-- The process that sleeps after its own quantum. -/
theorem settle_sleep (K : KS) (p : Nat) (on : Int) : (settleK (sleepK K p on) p).st p = 2 ∧ (settleK (sleepK K p on) p).wo p = on ∧ (settleK (sleepK K p on) p).acc p = K.acc p := by
  have hs : (sleepK K p on).st p = 2 := by simp [sleepK, upd]
  refine ⟨?_, by show upd K.wo p on p = on; simp [upd], rfl⟩
  show (if (sleepK K p on).st p = 1 then upd (sleepK K p on).st p 0 else (sleepK K p on).st) p = 2
  rw [if_neg (by rw [hs]; decide)]; exact hs
theorem settle_ran (K : KS) (p : Nat) (h : K.st p = 1) : (settleK K p).st p = 0 := by
  show (if K.st p = 1 then upd K.st p 0 else K.st) p = 0
  rw [if_pos h]; simp [upd]
theorem pget_pset (k : KS) (b : Bool) (l : List Int) : pget (pset k b l) b = l ∧ pget (pset k b l) (!b) = pget k (!b) := by cases b <;> exact ⟨rfl, rfl⟩
theorem pget_settle (k : KS) (p : Nat) (b : Bool) : pget (settleK k p) b = pget k b := by cases b <;> rfl
theorem pget_sleep (k : KS) (p : Nat) (on : Int) (b : Bool) : pget (sleepK k p on) b = pget k b := by cases b <;> rfl
theorem pget_wake (k : KS) (on : Int) (b : Bool) : pget (wake k on) b = pget k b := by cases b <;> rfl
theorem wake_run (k : KS) (on : Int) (p : Nat) (h : k.st p = 1) : (wake k on).st p = 1 := by
  show (if _ ∧ k.st p = 2 ∧ _ then (0 : Int) else k.st p) = 1
  rw [if_neg (by rw [h]; simp), h]

theorem put_fin (K : KS) (p : Nat) (b : Bool) (f e : Int) (h1 : K.st p = 1) :
    (3 ≤ (pget K b).length → (settleK (putK K p b f e) p).st p = 2 ∧ (settleK (putK K p b f e) p).wo p = f ∧ (settleK (putK K p b f e) p).acc p = K.acc p ∧ pget (settleK (putK K p b f e) p) b = pget K b) ∧
    ((pget K b).length < 3 → (settleK (putK K p b f e) p).st p = 0 ∧ (settleK (putK K p b f e) p).acc p = K.acc p ∧ pget (settleK (putK K p b f e) p) b = pget K b ++ [K.acc p]) ∧ pget (settleK (putK K p b f e) p) (!b) = pget K (!b) := by
  unfold putK
  by_cases h : 3 ≤ (pget K b).length
  · rw [if_pos h]
    obtain ⟨g1, g2, g3⟩ := settle_sleep K p f
    exact ⟨fun _ => ⟨g1, g2, g3, by rw [pget_settle, pget_sleep]⟩, fun h' => by omega, by rw [pget_settle, pget_sleep]⟩
  · rw [if_neg h]
    obtain ⟨e1, e2, e3, e4⟩ := pset_st (wake (pcInc K p) e) b (pget K b ++ [K.acc p])
    obtain ⟨q1, q2⟩ := pget_pset (wake (pcInc K p) e) b (pget K b ++ [K.acc p])
    refine ⟨fun h' => absurd h' h, fun _ => ⟨?_, ?_, ?_⟩, ?_⟩
    · exact settle_ran _ p (by rw [e1]; exact wake_run _ _ _ h1)
    · show (pset (wake (pcInc K p) e) b (pget K b ++ [K.acc p])).acc p = _
      rw [e3]; rfl
    · rw [pget_settle, q1]
    · rw [pget_settle, q2, pget_wake]; cases b <;> rfl

theorem take_fin (K : KS) (p : Nat) (b : Bool) (f e : Int) (h1 : K.st p = 1) :
    (pget K b = [] → (settleK (takeK K p b f e) p).st p = 2 ∧ (settleK (takeK K p b f e) p).wo p = e ∧ (settleK (takeK K p b f e) p).acc p = K.acc p ∧ pget (settleK (takeK K p b f e) p) b = pget K b) ∧
    (∀ x r, pget K b = x :: r → (settleK (takeK K p b f e) p).st p = 0 ∧ (settleK (takeK K p b f e) p).acc p = wrap64 (K.acc p + x) ∧ pget (settleK (takeK K p b f e) p) b = r) ∧ pget (settleK (takeK K p b f e) p) (!b) = pget K (!b) := by
  unfold takeK
  cases hq : pget K b with
  | nil =>
    obtain ⟨g1, g2, g3⟩ := settle_sleep K p e
    refine ⟨fun _ => ⟨g1, g2, g3, by rw [pget_settle, pget_sleep]; exact hq⟩, fun x r h' => by simp at h', ?_⟩
    show pget (settleK (sleepK K p e) p) (!b) = _
    rw [pget_settle, pget_sleep]
  | cons x r =>
    obtain ⟨e1, e2, e3, e4⟩ := pset_st (wake (pcInc { K with acc := upd K.acc p (wrap64 (K.acc p + x)) } p) f) b r
    obtain ⟨q1, q2⟩ := pget_pset (wake (pcInc { K with acc := upd K.acc p (wrap64 (K.acc p + x)) } p) f) b r
    refine ⟨fun h' => by simp at h', fun x' r' h' => ?_, ?_⟩
    · obtain ⟨rfl, rfl⟩ : x = x' ∧ r = r' := by simpa using h'
      refine ⟨?_, ?_, ?_⟩
      · exact settle_ran _ p (by show (pset _ b r).st p = 1; rw [e1]; exact wake_run _ _ _ h1)
      · show (pset (wake (pcInc { K with acc := upd K.acc p (wrap64 (K.acc p + x)) } p) f) b r).acc p = _
        rw [e3]
        show upd K.acc p (wrap64 (K.acc p + x)) p = _
        simp [upd]
      · show pget (settleK (pset _ b r) p) b = r
        rw [pget_settle, q1]
    · show pget (settleK (pset _ b r) p) (!b) = _
      rw [pget_settle, q2, pget_wake]; cases b <;> rfl

/-- The kernel as the operation finds it. -/
def atOp (k : KS) (p l : Nat) (g : Nat → Int × Int) : KS := traced (setRun k p) p (kdOf k p l g)
theorem atOp_run (k : KS) (p l : Nat) (g : Nat → Int × Int) : (atOp k p l g).st p = 1 := by simp [atOp, traced, setRun, upd]
theorem quantum_act (k : KS) (p l : Nat) (g : Nat → Int × Int) : quantumK k p l g = settleK (actK (atOp k p l g) p (kdOf k p l g) (fetchK k.n l g (k.pc p).toNat).2.1 (fetchK k.n l g (k.pc p).toNat).2.2) p := rfl
theorem quantum_put1 (k : KS) (p l : Nat) (g : Nat → Int × Int) (h : kdOf k p l g = 4) : quantumK k p l g = settleK (putK (atOp k p l g) p true 5 6) p := by
  rw [quantum_act]; unfold actK; simp only [h]; simp
theorem quantum_take1 (k : KS) (p l : Nat) (g : Nat → Int × Int) (h : kdOf k p l g = 5) : quantumK k p l g = settleK (takeK (atOp k p l g) p true 5 6) p := by
  rw [quantum_act]; unfold actK; simp only [h]; simp
theorem quantum_put2 (k : KS) (p l : Nat) (g : Nat → Int × Int) (h : kdOf k p l g = 9) : quantumK k p l g = settleK (putK (atOp k p l g) p false 7 8) p := by
  rw [quantum_act]; unfold actK; simp only [h]; simp
theorem quantum_take2 (k : KS) (p l : Nat) (g : Nat → Int × Int) (h : kdOf k p l g = 10) : quantumK k p l g = settleK (takeK (atOp k p l g) p false 7 8) p := by
  rw [quantum_act]; unfold actK; simp only [h]; simp
theorem act_other (K : KS) (p : Nat) (kd a : Int) (ok : Bool) (h4 : kd ≠ 4) (h5 : kd ≠ 5) (h9 : kd ≠ 9) (h10 : kd ≠ 10) : (actK K p kd a ok).pipe = K.pipe ∧ (actK K p kd a ok).pipe2 = K.pipe2 := by
  unfold actK
  split
  · exact ⟨rfl, rfl⟩
  split
  · exact ⟨rfl, rfl⟩
  split
  · exact ⟨rfl, rfl⟩
  split
  · exact ⟨rfl, rfl⟩
  split
  · exact ⟨rfl, rfl⟩
  split
  · unfold awaitK
    split <;> exact ⟨rfl, rfl⟩
  · exact ⟨rfl, rfl⟩
theorem quantum_other (k : KS) (p l : Nat) (g : Nat → Int × Int) (h4 : kdOf k p l g ≠ 4) (h5 : kdOf k p l g ≠ 5) (h9 : kdOf k p l g ≠ 9) (h10 : kdOf k p l g ≠ 10) : (quantumK k p l g).pipe = k.pipe ∧ (quantumK k p l g).pipe2 = k.pipe2 := by
  obtain ⟨h1, h2⟩ := act_other (atOp k p l g) p (kdOf k p l g) (fetchK k.n l g (k.pc p).toNat).2.1 (fetchK k.n l g (k.pc p).toNat).2.2 h4 h5 h9 h10
  exact ⟨h1, h2⟩

/-- The judge's pipe stands for the kernel's. -/
def Std (s : List Int × Nat) (l : List Int) : Prop := s.2 ≤ s.1.length ∧ l = s.1.drop s.2
theorem Std.len {s : List Int × Nat} {l : List Int} (h : Std s l) : l.length = s.1.length - s.2 := by rw [h.2]; simp
theorem Std.put {s : List Int × Nat} {l : List Int} (h : Std s l) (a : Int) : Std (putP s a) (if 3 ≤ l.length then l else l ++ [a]) := by
  have hl := h.len
  unfold putP
  by_cases hf : 3 ≤ l.length
  · rw [if_pos hf, if_pos (by omega)]; exact h
  · rw [if_neg hf, if_neg (by omega)]
    refine ⟨by have := h.1; simp; omega, ?_⟩
    show l ++ [a] = (s.1 ++ [a]).drop s.2
    rw [List.drop_append_of_le_length h.1, ← h.2]
theorem Std.take {s : List Int × Nat} {l : List Int} (h : Std s l) : Std (takeP s) l.tail ∧ (s.2 < s.1.length → ∃ r, l = lf s.1 s.2 :: r) ∧ (s.1.length ≤ s.2 → l = []) := by
  have hl := h.len
  unfold takeP
  by_cases hf : s.1.length ≤ s.2
  · rw [if_pos hf]
    have hn : l = [] := List.length_eq_zero_iff.1 (by omega)
    refine ⟨?_, fun h' => by omega, fun _ => hn⟩
    rw [hn]; rw [hn] at h; exact h
  · rw [if_neg hf]
    have hd : s.1.drop s.2 = s.1[s.2] :: s.1.drop (s.2 + 1) := List.drop_eq_getElem_cons (by omega)
    refine ⟨⟨by show s.2 + 1 ≤ s.1.length; omega, ?_⟩, fun _ => ⟨s.1.drop (s.2 + 1), ?_⟩, fun h' => absurd h' hf⟩
    · show l.tail = s.1.drop (s.2 + 1)
      rw [h.2, hd]; rfl
    · rw [h.2, hd, lf]
      simp [List.getD, show s.2 < s.1.length by omega]

theorem put_ok {s : List Int × Nat} {K : KS} {p : Nat} {b : Bool} {f e : Int} {m : Mo} {acc : Nat → Int} (hK : K.st p = 1) (hs : Std s (pget K b)) (hm1 : m.st = (settleK (putK K p b f e) p).st) (hm2 : m.wo = (settleK (putK K p b f e) p).wo) (hm3 : m.acc = (settleK (putK K p b f e) p).acc) (ha : acc p = K.acc p) :
    putC s m acc p f ∧ Std (putP s (acc p)) (pget (settleK (putK K p b f e) p) b) := by
  obtain ⟨h1, h2, _⟩ := put_fin K p b f e hK
  have hl := hs.len
  have hst := hs.put (acc p)
  constructor
  · constructor
    · intro h
      obtain ⟨g1, g2, g3, _⟩ := h1 (by omega)
      exact ⟨by rw [hm1]; exact g1, by rw [hm2]; exact g2, by rw [hm3, g3, ha]⟩
    · intro h
      obtain ⟨g1, g2, _⟩ := h2 (by omega)
      exact ⟨by rw [hm1]; exact g1, by rw [hm3, g2, ha]⟩
  · by_cases hf : 3 ≤ (pget K b).length
    · rw [if_pos hf] at hst
      rw [(h1 hf).2.2.2]; exact hst
    · rw [if_neg hf] at hst
      rw [(h2 (by omega)).2.2, ← ha]; exact hst
theorem take_ok {s : List Int × Nat} {K : KS} {p : Nat} {b : Bool} {f e : Int} {m : Mo} {acc : Nat → Int} (hK : K.st p = 1) (hs : Std s (pget K b)) (hm1 : m.st = (settleK (takeK K p b f e) p).st) (hm2 : m.wo = (settleK (takeK K p b f e) p).wo) (hm3 : m.acc = (settleK (takeK K p b f e) p).acc) (ha : acc p = K.acc p) :
    takeC s m acc p e ∧ Std (takeP s) (pget (settleK (takeK K p b f e) p) b) := by
  obtain ⟨h1, h2, _⟩ := take_fin K p b f e hK
  obtain ⟨t1, t2, t3⟩ := hs.take
  constructor
  · constructor
    · intro h
      obtain ⟨g1, g2, g3, _⟩ := h1 (t3 h)
      exact ⟨by rw [hm1]; exact g1, by rw [hm2]; exact g2, by rw [hm3, g3, ha]⟩
    · intro h
      obtain ⟨r, hr⟩ := t2 h
      obtain ⟨g1, g2, _⟩ := h2 _ _ hr
      exact ⟨by rw [hm1]; exact g1, by rw [hm3, g2, ha]⟩
  · by_cases hf : s.2 < s.1.length
    · obtain ⟨r, hr⟩ := t2 hf
      rw [(h2 _ _ hr).2.2]
      rw [hr] at t1; exact t1
    · have hn := t3 (by omega)
      rw [(h1 hn).2.2.2]
      rw [hn] at t1 ⊢; exact t1

theorem pipes_inv {Pk : KS → Int → Prop} (hPk : Picks Pk) {pl : Nat → Nat} {pg : Nat → Nat → Int × Int} {N : Nat} {ps : List Nat} (ho : PicksOk Pk pl pg (bootK N) ps) : ∀ i, i ≤ ps.length →
    Std (ps1 (momK pl pg (bootK N) ps) i) (runK pl pg (bootK N) (ps.take i)).pipe ∧ Std (ps2 (momK pl pg (bootK N) ps) i) (runK pl pg (bootK N) (ps.take i)).pipe2
  | 0, _ => ⟨⟨Nat.le_refl _, rfl⟩, ⟨Nat.le_refl _, rfl⟩⟩
  | i + 1, hi => by
    obtain ⟨ih1, ih2⟩ := pipes_inv hPk ho i (by omega)
    obtain ⟨m, hm⟩ : ∃ m, (momK pl pg (bootK N) ps)[i]? = some m := ⟨_, List.getElem?_eq_getElem (by rw [momK_length]; omega)⟩
    have hacc := accOf_run (pl := pl) (pg := pg) (N := N) (ps := ps) i (by omega)
    rw [ps1_succ hm, ps2_succ hm]
    obtain ⟨p, hp, rfl, hr⟩ := mom_get hm
    rw [hr]
    generalize runK pl pg (bootK N) (ps.take i) = k at *
    generalize ps1 (momK pl pg (bootK N) ps) i = s1 at *
    generalize ps2 (momK pl pg (bootK N) ps) i = s2 at *
    generalize accOf (momK pl pg (bootK N) ps) i = acc at *
    have ha : acc p = (atOp k p (pl p) (pg p)).acc p := by rw [hacc]; rfl
    have hK := atOp_run k p (pl p) (pg p)
    have j1 : Std s1 (pget (atOp k p (pl p) (pg p)) true) := ih1
    have j2 : Std s2 (pget (atOp k p (pl p) (pg p)) false) := ih2
    have hmk : (moOf k p (pl p) (pg p)).kd = kdOf k p (pl p) (pg p) := rfl
    have hmp : (moOf k p (pl p) (pg p)).p.toNat = p := by show ((p : Int)).toNat = p; simp
    unfold step1 step2
    rw [hmk, hmp]
    by_cases h4 : kdOf k p (pl p) (pg p) = 4
    · rw [if_pos h4, if_neg (by omega), if_neg (by omega)]
      have hq := quantum_put1 k p (pl p) (pg p) h4
      have := (put_ok (f := 5) (e := 6) (m := moOf k p (pl p) (pg p)) hK j1 (by rw [← hq]; rfl) (by rw [← hq]; rfl) (by rw [← hq]; rfl) ha).2
      have ho := (put_fin (atOp k p (pl p) (pg p)) p true 5 6 hK).2.2
      rw [← hq] at this ho
      exact ⟨this, by have e : (quantumK k p (pl p) (pg p)).pipe2 = k.pipe2 := ho
                      rw [e]; exact ih2⟩
    rw [if_neg h4]
    by_cases h5 : kdOf k p (pl p) (pg p) = 5
    · rw [if_pos h5, if_neg (by omega), if_neg (by omega)]
      have hq := quantum_take1 k p (pl p) (pg p) h5
      have := (take_ok (f := 5) (e := 6) (m := moOf k p (pl p) (pg p)) hK j1 (by rw [← hq]; rfl) (by rw [← hq]; rfl) (by rw [← hq]; rfl) ha).2
      have ho := (take_fin (atOp k p (pl p) (pg p)) p true 5 6 hK).2.2
      rw [← hq] at this ho
      exact ⟨this, by have e : (quantumK k p (pl p) (pg p)).pipe2 = k.pipe2 := ho
                      rw [e]; exact ih2⟩
    rw [if_neg h5]
    by_cases h9 : kdOf k p (pl p) (pg p) = 9
    · rw [if_pos h9]
      have hq := quantum_put2 k p (pl p) (pg p) h9
      have := (put_ok (f := 7) (e := 8) (m := moOf k p (pl p) (pg p)) hK j2 (by rw [← hq]; rfl) (by rw [← hq]; rfl) (by rw [← hq]; rfl) ha).2
      have ho := (put_fin (atOp k p (pl p) (pg p)) p false 7 8 hK).2.2
      rw [← hq] at this ho
      exact ⟨by have e : (quantumK k p (pl p) (pg p)).pipe = k.pipe := ho
                rw [e]; exact ih1, this⟩
    rw [if_neg h9]
    by_cases h10 : kdOf k p (pl p) (pg p) = 10
    · rw [if_pos h10]
      have hq := quantum_take2 k p (pl p) (pg p) h10
      have := (take_ok (f := 7) (e := 8) (m := moOf k p (pl p) (pg p)) hK j2 (by rw [← hq]; rfl) (by rw [← hq]; rfl) (by rw [← hq]; rfl) ha).2
      have ho := (take_fin (atOp k p (pl p) (pg p)) p false 7 8 hK).2.2
      rw [← hq] at this ho
      exact ⟨by have e : (quantumK k p (pl p) (pg p)).pipe = k.pipe := ho
                rw [e]; exact ih1, this⟩
    rw [if_neg h10]
    obtain ⟨e1, e2⟩ := quantum_other k p (pl p) (pg p) h4 h5 h9 h10
    exact ⟨by rw [e1]; exact ih1, by rw [e2]; exact ih2⟩

theorem pipesOk {Pk : KS → Int → Prop} (hPk : Picks Pk) {pl : Nat → Nat} {pg : Nat → Nat → Int × Int} {N : Nat} {ps : List Nat} (ho : PicksOk Pk pl pg (bootK N) ps) : PipesOk N (momK pl pg (bootK N) ps) := by
  intro i m hm
  have hil : i < ps.length := by
    have := (List.getElem?_eq_some_iff.1 hm).1
    rwa [momK_length] at this
  obtain ⟨n1, n2⟩ := pipes_inv hPk ho (i + 1) (by omega)
  obtain ⟨i1, i2⟩ := pipes_inv hPk ho i (by omega)
  have hacc := accOf_run (pl := pl) (pg := pg) (N := N) (ps := ps) i (by omega)
  have hkn : (runK pl pg (bootK N) (ps.take i)).n = N := runK_n pl pg _ (bootK N)
  obtain ⟨p, hp, rfl, hr⟩ := mom_get hm
  have hpn := (hPk _ _ (ho i p hp)).1
  rw [hr] at n1 n2
  refine ⟨⟨p, by omega, rfl, ?_⟩, n1.2, n2.2⟩
  clear n1 n2
  generalize runK pl pg (bootK N) (ps.take i) = k at *
  generalize ps1 (momK pl pg (bootK N) ps) i = s1 at *
  generalize ps2 (momK pl pg (bootK N) ps) i = s2 at *
  generalize accOf (momK pl pg (bootK N) ps) i = acc at *
  have ha : acc p = (atOp k p (pl p) (pg p)).acc p := by rw [hacc]; rfl
  have hK := atOp_run k p (pl p) (pg p)
  have j1 : Std s1 (pget (atOp k p (pl p) (pg p)) true) := i1
  have j2 : Std s2 (pget (atOp k p (pl p) (pg p)) false) := i2
  refine ⟨fun h => ?_, fun h => ?_, fun h => ?_, fun h => ?_⟩
  · have hq := quantum_put1 k p (pl p) (pg p) h
    exact (put_ok (f := 5) (e := 6) hK j1 (by rw [← hq]; rfl) (by rw [← hq]; rfl) (by rw [← hq]; rfl) ha).1
  · have hq := quantum_take1 k p (pl p) (pg p) h
    exact (take_ok (f := 5) (e := 6) hK j1 (by rw [← hq]; rfl) (by rw [← hq]; rfl) (by rw [← hq]; rfl) ha).1
  · have hq := quantum_put2 k p (pl p) (pg p) h
    exact (put_ok (f := 7) (e := 8) hK j2 (by rw [← hq]; rfl) (by rw [← hq]; rfl) (by rw [← hq]; rfl) ha).1
  · have hq := quantum_take2 k p (pl p) (pg p) h
    exact (take_ok (f := 7) (e := 8) hK j2 (by rw [← hq]; rfl) (by rw [← hq]; rfl) (by rw [← hq]; rfl) ha).1
end Go.Proofs.Ygdapg
