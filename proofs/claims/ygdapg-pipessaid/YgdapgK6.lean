/-
  THE KERNEL's Step, WALKED.
-/
import Derived.Test.YgdapgK5
set_option linter.unusedSimpArgs false
set_option linter.unusedVariables false
namespace Go.Proofs.Ygdapg
open Go.RowKit

def putK (k : KS) (p : Nat) (b : Bool) (full empty : Int) : KS :=
  if 3 ≤ (pget k b).length then sleepK k p full else pset (wake (pcInc k p) empty) b (pget k b ++ [k.acc p])
def takeK (k : KS) (p : Nat) (b : Bool) (full empty : Int) : KS :=
  match pget k b with
  | [] => sleepK k p empty
  | x :: r => pset (wake (pcInc { k with acc := upd k.acc p (wrap64 (k.acc p + x)) } p) full) b r
/-- What an operation of kind kd with operand a does; ok: it was well formed. -/
def actK (k : KS) (p : Nat) (kd a : Int) (ok : Bool) : KS :=
  if kd = 0 then pcInc { k with acc := upd k.acc p (wrap64 (k.acc p + a)) } p
  else if kd = 1 then pcInc k p
  else if kd = 2 then sleepK (pcInc k p) p a
  else if kd = 3 then wake (pcInc k p) a
  else if kd = 4 then putK k p true 5 6
  else if kd = 5 then takeK k p true 5 6
  else if kd = 9 then putK k p false 7 8
  else if kd = 10 then takeK k p false 7 8
  else if kd = 7 then exitK (pcInc k p) a.toNat (-2)
  else if kd = 8 then awaitK k p a.toNat
  else exitK k p (if ok then k.acc p else -1)
def traced (k : KS) (p : Nat) (kd : Int) : KS := { k with trace := k.trace ++ [(p : Int) * 16 + kd] }
def stepK (k : KS) (p l : Nat) (g : Nat → Int × Int) : KS :=
  actK (traced k p (fetchK k.n l g (k.pc p).toNat).1) p (fetchK k.n l g (k.pc p).toNat).1 (fetchK k.n l g (k.pc p).toNat).2.1 (fetchK k.n l g (k.pc p).toNat).2.2

theorem fetchK_range (n l : Nat) (g : Nat → Int × Int) (pc : Nat) : 0 ≤ (fetchK n l g pc).1 ∧ (fetchK n l g pc).1 ≤ 10 ∧
    ((fetchK n l g pc).1 = 7 ∨ (fetchK n l g pc).1 = 8 → 0 ≤ (fetchK n l g pc).2.1 ∧ (fetchK n l g pc).2.1 < (n : Int)) := by
  unfold fetchK
  split
  · simp
  split
  · simp
  split
  · simp
  split
  · simp
  · simp only []
    refine ⟨by omega, by omega, fun h => ?_⟩
    rename_i h3 _
    omega

theorem KAt.pcUp {w : World} {L : Lay} {k : KS} (h : KAt w L k) {p c : Nat} (hc : k.pc p = c) : KAt (w.setCell ⟨L.c, p, none⟩ (.int .i64 ((c : Int) + 1))) L (pcInc k p) := by
  have := h.setPc p ((c : Int) + 1)
  unfold pcInc
  rw [hc]
  exact this

set_option maxHeartbeats 4000000 in
set_option maxRecDepth 100000 in
theorem step_any (w : World) (L : Lay) (k : KS) (H : Hid (KAt w L k)) (p : Nat) (hp : p < k.n) (B : Nat) (v : Value) (l : Nat) (g : Nat → Int × Int) (HV : Hid (ProgAt B w v l g)) (hl : l ≤ 32)
    (c : Nat) (Hc : Hid (k.pc p = c)) (hc : c ≤ 32) (hrun : k.st p = 1) (nt : Nat) (Hnt : Hid (k.trace.length = nt)) (ht : nt < 256) :
    Calls Yapd.prog 57 #[.pointer (some ⟨L.kb, 0, none⟩), .int .i64 p, v] w fun e w' =>
      e = .returned (.tuple #[]) ∧ KAt w' L (stepK k p l g) ∧ Chg L.mem w w' := by
  have f0 := H.out.f0
  have f1 := H.out.f1
  have c0 := H.out.cs hp
  have c1 := H.out.cc hp
  rw [Hc.out] at c1
  rw [hrun] at c0
  clear hrun
  have hn := H.out.hn
  have hp0 : (0 : Int) ≤ (p : Int) := by omega
  have hp1 : (p : Int) < (k.n : Int) := by omega
  go_enter Yapd.func57, Yapd.ntmps57
  go_wp2_with fail
  refine (has_any _ L k H.out p).mono ?_
  rintro e w' ⟨rfl, hw⟩
  subst w'
  rw [show decide (0 ≤ (p : Int) ∧ (p : Int) < (k.n : Int)) = true by simp; omega]
  go_wp2_with fail
  refine (fetch_any _ L k H.out B v l g HV.out c hl hc).mono ?_
  rintro e w1 ⟨rfl, HC1⟩
  have hr := fetchK_range k.n l g c
  have ES : Hid (stepK k p l g = actK (traced k p (fetchK k.n l g c).1) p (fetchK k.n l g c).1 (fetchK k.n l g c).2.1 (fetchK k.n l g c).2.2) := by unfold Hid stepK; rw [Hc.out]; rfl
  generalize (fetchK k.n l g c).1 = kd at *
  generalize (fetchK k.n l g c).2.1 = a at *
  generalize (fetchK k.n l g c).2.2 = ok at *
  have HK1 : Hid (KAt w1 L k) := H.out.chg HC1 (fun _ _ h => h)
  have HC1' : Hid (Chg L.mem w w1) := HC1.mono (fun _ h => h.elim)
  obtain ⟨hr1, hr2, hr3⟩ := hr
  clear HC1 f0 f1 c0 c1
  have f9 := HK1.out.f9
  have z9 := HK1.out.zk 9
  rw [Hnt.out] at f9
  obtain ⟨v0, hv0⟩ := HK1.out.t.some (i := nt) (by omega)
  have zt : w1.frozen? ⟨L.t, nt, none⟩ = false := HK1.out.t.fz
  have nkt : L.kb ≠ L.t := by obtain ⟨⟨-, -, -, -, -, -, -, n⟩, -⟩ := HK1.out.ne; exact n
  have hk1 : L.kb < w1.heap.size := cell_lt f9
  have ht1 : L.t < w1.heap.size := cell_lt hv0
  go_wp2_with fail
  go_region
  have HKW : KAt ((((w1.setCell ⟨L.t, nt, none⟩ (.int .i64 ((p : Int) * 16 + kd))).setCell ⟨L.kb, 9, none⟩ (.slice (some ⟨L.t, 0, none⟩) (nt + 1) 256)).alloc (.cells #[.int .i64 kd, .int .i64 a] 54)).alloc (.cells #[.int .i64 ((p : Int) * 16 + kd)] 3)).drew L (traced k p kd) := by
    have hb := HK1.out.t.push (by rw [Hnt.out]; exact ht) ((p : Int) * 16 + kd)
    rw [Hnt.out] at hb
    have h0 : KAt (w1.setCell ⟨L.t, nt, none⟩ (.int .i64 ((p : Int) * 16 + kd))) L k :=
      HK1.out.withT (fun b _ hne => heap_set_ne hne) k.trace rfl (HK1.out.t.poke (by rw [Hnt.out]; exact Nat.le_refl _) _)
    have h1 := h0.setTrace (k.trace ++ [(p : Int) * 16 + kd]) (by simp; rw [Hnt.out]; omega) hb
    simp only [List.length_append, List.length_singleton, Hnt.out] at h1
    exact ((h1.alloc _).alloc _).drew
  have HCW : Chg L.mem w ((((w1.setCell ⟨L.t, nt, none⟩ (.int .i64 ((p : Int) * 16 + kd))).setCell ⟨L.kb, 9, none⟩ (.slice (some ⟨L.t, 0, none⟩) (nt + 1) 256)).alloc (.cells #[.int .i64 kd, .int .i64 a] 54)).alloc (.cells #[.int .i64 ((p : Int) * 16 + kd)] 3)).drew :=
    ((((HC1'.out.setCell (.inl (by simp [Lay.mem, Lay.list])) _).setCell (.inl (by simp [Lay.mem, Lay.list])) _).alloc _).alloc _).drew
  have o0 : ((((w1.setCell ⟨L.t, nt, none⟩ (.int .i64 ((p : Int) * 16 + kd))).setCell ⟨L.kb, 9, none⟩ (.slice (some ⟨L.t, 0, none⟩) (nt + 1) 256)).alloc (.cells #[.int .i64 kd, .int .i64 a] 54)).alloc (.cells #[.int .i64 ((p : Int) * 16 + kd)] 3)).drew.cell? ⟨w1.heap.size, 0, none⟩ = some (.int .i64 kd) := by
    simp [go_sem]
  have o1 : ((((w1.setCell ⟨L.t, nt, none⟩ (.int .i64 ((p : Int) * 16 + kd))).setCell ⟨L.kb, 9, none⟩ (.slice (some ⟨L.t, 0, none⟩) (nt + 1) 256)).alloc (.cells #[.int .i64 kd, .int .i64 a] 54)).alloc (.cells #[.int .i64 ((p : Int) * 16 + kd)] 3)).drew.cell? ⟨w1.heap.size, 1, none⟩ = some (.int .i64 a) := by
    simp [go_sem]
  have hL : Hid (∀ b, L.mem b → b ≠ w1.heap.size) := fun b hb => by have := HK1.out.lt hb; omega
  generalize ((((w1.setCell ⟨L.t, nt, none⟩ (.int .i64 ((p : Int) * 16 + kd))).setCell ⟨L.kb, 9, none⟩ (.slice (some ⟨L.t, 0, none⟩) (nt + 1) 256)).alloc (.cells #[.int .i64 kd, .int .i64 a] 54)).alloc (.cells #[.int .i64 ((p : Int) * 16 + kd)] 3)).drew = W at *
  generalize hob : w1.heap.size = ob at *
  clear hob f9 z9 hv0 zt nkt hk1 ht1 HK1 HC1' H HV
  have HK : Hid (KAt W L (traced k p kd)) := HKW
  have HC : Hid (Chg L.mem w W) := HCW
  clear HKW HCW
  have hpt : p < (traced k p kd).n := hp
  have Hct : Hid ((traced k p kd).pc p = c) := Hc.out
  have hnt : (traced k p kd).n ≤ 8 := hn
  have hr4 : kd = 7 ∨ kd = 8 → 0 ≤ a ∧ a < ((traced k p kd).n : Int) := hr3
  have hp2 : (p : Int) < ((traced k p kd).n : Int) := hp1
  clear hr3 Hc hn hp hp1
  generalize traced k p kd = T at *
  have hkd : kd = 0 ∨ kd = 1 ∨ kd = 2 ∨ kd = 3 ∨ kd = 4 ∨ kd = 5 ∨ kd = 6 ∨ kd = 7 ∨ kd = 8 ∨ kd = 9 ∨ kd = 10 := by omega
  clear hr1 hr2
  rcases hkd with rfl | rfl | rfl | rfl | rfl | rfl | rfl | rfl | rfl | rfl | rfl
  · -- Add
    clear hr4
    have f1 := HK.out.f1
    have f2 := HK.out.f2
    have c1 := HK.out.cc hpt
    have c2 := HK.out.ca hpt
    have z1 := HK.out.zc p
    have z2 := HK.out.za p
    rw [Hct.out] at c1
    obtain ⟨⟨-, n2, n3, -⟩, -, ⟨n4, -⟩, -⟩ := HK.out.ne
    have n5 : L.a ≠ ob := hL.out _ (by simp [Lay.mem, Lay.list])
    go_wp2_with fail
    go_region
    go_wp2_with fail
    go_end0
    refine ⟨rfl, ?_, ?_⟩
    · rw [ES.out]
      have h := ((HK.out.setAcc p (wrap64 (T.acc p + a))).pcUp (p := p) (c := c) Hct.out).drew
      simpa [actK] using h
    · exact ((HC.out.setCell (.inl (by simp [Lay.mem, Lay.list])) _).setCell (.inl (by simp [Lay.mem, Lay.list])) _).drew
  · -- Yield
    clear hr4
    have f1 := HK.out.f1
    have c1 := HK.out.cc hpt
    have z1 := HK.out.zc p
    rw [Hct.out] at c1
    go_wp2_with fail
    go_end0
    refine ⟨rfl, ?_, HC.out.setCell (.inl (by simp [Lay.mem, Lay.list])) _⟩
    rw [ES.out]
    simpa [actK] using HK.out.pcUp (p := p) (c := c) Hct.out
  · -- Sleep
    clear hr4
    have f1 := HK.out.f1
    have c1 := HK.out.cc hpt
    have z1 := HK.out.zc p
    rw [Hct.out] at c1
    have n5 : L.c ≠ ob := hL.out _ (by simp [Lay.mem, Lay.list])
    go_wp2_with fail
    refine (sleep_any _ L _ (HK.out.pcUp (p := p) (c := c) Hct.out) p _ hpt).mono ?_
    rintro e w2 ⟨rfl, HK2, HC2⟩
    have HK3 : Hid (KAt w2 L (sleepK (pcInc T p) p a)) := HK2
    have HC3 : Hid (Chg L.mem w w2) := (HC.out.setCell (.inl (by simp [Lay.mem, Lay.list])) _).trans HC2
    clear HK2 HC2
    go_wp2_with fail
    go_end0
    refine ⟨rfl, ?_, HC3.out⟩
    rw [ES.out]
    simpa [actK] using HK3.out
  · -- Wake
    clear hr4
    have f1 := HK.out.f1
    have c1 := HK.out.cc hpt
    have z1 := HK.out.zc p
    rw [Hct.out] at c1
    have n5 : L.c ≠ ob := hL.out _ (by simp [Lay.mem, Lay.list])
    go_wp2_with fail
    refine (wake_any _ L _ (HK.out.pcUp (p := p) (c := c) Hct.out) _).mono ?_
    rintro e w2 ⟨rfl, HK2, HC2⟩
    have HK3 : Hid (KAt w2 L (wake (pcInc T p) a)) := HK2
    have HC3 : Hid (Chg L.mem w w2) := (HC.out.setCell (.inl (by simp [Lay.mem, Lay.list])) _).trans HC2
    clear HK2 HC2
    go_wp2_with fail
    go_end0
    refine ⟨rfl, ?_, HC3.out⟩
    rw [ES.out]
    simpa [actK] using HK3.out
  · -- Write
    clear hr4
    have f := HK.out.f5
    have hpc : T.pc p ≤ 32 ∧ 0 ≤ T.pc p := by rw [Hct.out]; omega
    have Hpc : Hid (T.pc p ≤ 32 ∧ 0 ≤ T.pc p) := hpc
    clear hpc
    by_cases hfull : 3 ≤ T.pipe.length
    · have HE : Hid (actK T p 4 a ok = sleepK T p 5) := by unfold Hid; simp [actK, putK, pget, hfull]
      have Hlen : Hid (T.pipe.length ≤ 3) := HK.out.hp
      generalize hm : T.pipe.length = m at *
      have Hm : Hid (T.pipe.length = m) := hm
      clear hm
      go_wp2_with fail
      refine (put_full _ L _ HK p hpt _ m hfull _ _).mono ?_
      rintro e w2 ⟨rfl, HK2, HC2⟩
      have HK3 : Hid (KAt w2 L (sleepK T p 5)) := HK2
      have HC3 : Hid (Chg L.mem w w2) := HC.out.trans HC2
      clear HK2 HC2 f
      have f := HK3.out.f5
      have z := HK3.out.zk 5
      go_wp2_with fail
      go_end0
      refine ⟨rfl, ?_, HC3.out.setCell (.inl (by simp [Lay.mem, Lay.list])) _⟩
      rw [ES.out, HE.out]
      have h := HK3.out.setPipe T.pipe (by rw [Hm.out]; exact Hlen.out) HK3.out.p
      rw [Hm.out] at h
      exact h
    · have HE : Hid (actK T p 4 a ok = pset (wake (pcInc T p) 6) true (T.pipe ++ [T.acc p])) := by unfold Hid; simp [actK, putK, pget, hfull]
      generalize hm : T.pipe.length = m at *
      have Hm : Hid (T.pipe.length = m) := hm
      clear hm
      have hroom : m < 3 := by omega
      clear hfull
      go_wp2_with fail
      refine (put_room _ L _ HK p hpt L.p T.pipe (isPipe_of L T true) m Hm hroom Hpc.out _ _).mono ?_
      rintro e w2 ⟨rfl, HK2, HB2, HC2⟩
      have HK3 : Hid (KAt w2 L (wake (pcInc T p) 6)) := HK2
      have HC3 : Hid (Chg L.mem w w2) := HC.out.trans HC2
      have HB3 : Hid (Buf w2 L.p 3 (T.pipe ++ [T.acc p])) := HB2
      clear HK2 HC2 HB2 f
      have f := HK3.out.f5
      have z := HK3.out.zk 5
      go_wp2_with fail
      go_end0
      refine ⟨rfl, ?_, HC3.out.setCell (.inl (by simp [Lay.mem, Lay.list])) _⟩
      rw [ES.out, HE.out]
      have h := HK3.out.setPipe (T.pipe ++ [T.acc p]) (by simp; rw [Hm.out]; omega) HB3.out
      simp only [List.length_append, List.length_singleton, Hm.out] at h
      exact h
  · -- Read
    clear hr4
    have f := HK.out.f5
    have Hpc : Hid (T.pc p ≤ 32 ∧ 0 ≤ T.pc p) := by unfold Hid; rw [Hct.out]; omega
    have Hlen : Hid (T.pipe.length ≤ 3) := HK.out.hp
    rcases hpipe : T.pipe with _ | ⟨x, r⟩
    · have HE : Hid (actK T p 5 a ok = sleepK T p 6) := by unfold Hid; simp [actK, takeK, pget, hpipe]
      rw [hpipe] at f
      have HPI : Hid (T.pipe = []) := hpipe
      clear hpipe
      simp only [List.length_nil] at f
      go_wp2_with fail
      refine (take_empty _ L _ HK p hpt _ _ _).mono ?_
      rintro e w2 ⟨rfl, HK2, HC2⟩
      have HK3 : Hid (KAt w2 L (sleepK T p 6)) := HK2
      have HC3 : Hid (Chg L.mem w w2) := HC.out.trans HC2
      clear HK2 HC2 f
      have f := HK3.out.f5
      have z := HK3.out.zk 5
      go_wp2_with fail
      go_end0
      refine ⟨rfl, ?_, HC3.out.setCell (.inl (by simp [Lay.mem, Lay.list])) _⟩
      rw [ES.out, HE.out]
      have h := HK3.out.setPipe T.pipe Hlen.out HK3.out.p
      have e0 : T.pipe.length = 0 := by rw [HPI.out]; rfl
      rw [e0] at h
      exact h
    · have HE : Hid (actK T p 5 a ok = pset (wake (pcInc { T with acc := upd T.acc p (wrap64 (T.acc p + x)) } p) 5) true r) := by unfold Hid; simp [actK, takeK, pget, hpipe]
      rw [hpipe] at f
      have HPI : Hid (pget T true = x :: r) := hpipe
      have Hl2 : Hid ((x :: r).length ≤ 3) := by have := Hlen.out; rw [hpipe] at this; exact this
      clear hpipe Hlen
      generalize hm : (x :: r).length = m at *
      have Hm : Hid ((x :: r).length = m) := hm
      clear hm
      go_wp2_with fail
      refine (take_some _ L _ HK p hpt true x r HPI m Hm Hpc.out _ _).mono ?_
      rintro e w2 ⟨rfl, ⟨l', hl', HK2⟩, HB2, HC2⟩
      have HK3 : Hid (KAt w2 L (wake (pcInc { pset T true l' with acc := upd T.acc p (wrap64 (T.acc p + x)) } p) 5)) := HK2
      have HC3 : Hid (Chg L.mem w w2) := HC.out.trans HC2
      have HB3 : Hid (Buf w2 L.p 3 r) := HB2
      clear HK2 HC2 HB2 f hl'
      have f := HK3.out.f5
      have z := HK3.out.zk 5
      go_wp2_with fail
      go_end0
      refine ⟨rfl, ?_, HC3.out.setCell (.inl (by simp [Lay.mem, Lay.list])) _⟩
      rw [ES.out, HE.out]
      have e1 : r.length = m - 1 := by have := Hm.out; simp at this; omega
      have h := HK3.out.setPipe r (by have h9 : m ≤ 3 := Hl2.out; omega) HB3.out
      rw [e1] at h
      exact h
  · -- Exit
    clear hr4
    have f2 := HK.out.f2
    have c2 := HK.out.ca hpt
    cases ok
    · go_wp2_with fail
      refine (exit_any _ L _ HK.out p _ hpt).mono ?_
      rintro e w2 ⟨rfl, HK2, HC2⟩
      have HK3 : Hid (KAt w2 L (exitK T p (-1))) := HK2
      have HC3 : Hid (Chg L.mem w w2) := HC.out.trans HC2
      clear HK2 HC2
      go_wp2_with fail
      go_end0
      refine ⟨rfl, ?_, HC3.out⟩
      rw [ES.out]
      simpa [actK] using HK3.out
    · go_wp2_with fail
      refine (exit_any _ L _ HK.out p _ hpt).mono ?_
      rintro e w2 ⟨rfl, HK2, HC2⟩
      have HK3 : Hid (KAt w2 L (exitK T p (T.acc p))) := HK2
      have HC3 : Hid (Chg L.mem w w2) := HC.out.trans HC2
      clear HK2 HC2
      go_wp2_with fail
      go_end0
      refine ⟨rfl, ?_, HC3.out⟩
      rw [ES.out]
      simpa [actK] using HK3.out
  · -- Kill
    obtain ⟨ha0, ha1⟩ := hr4 (.inl rfl)
    clear hr4
    obtain ⟨a', rfl⟩ := Int.eq_ofNat_of_zero_le ha0
    have ha2 : a' < T.n := by omega
    have f1 := HK.out.f1
    have c1 := HK.out.cc hpt
    have z1 := HK.out.zc p
    rw [Hct.out] at c1
    have n5 : L.c ≠ ob := hL.out _ (by simp [Lay.mem, Lay.list])
    go_wp2_with fail
    refine (exit_any _ L _ (HK.out.pcUp (p := p) (c := c) Hct.out) a' _ ha2).mono ?_
    rintro e w2 ⟨rfl, HK2, HC2⟩
    have HK3 : Hid (KAt w2 L (exitK (pcInc T p) a' (-2))) := HK2
    have HC3 : Hid (Chg L.mem w w2) := (HC.out.setCell (.inl (by simp [Lay.mem, Lay.list])) _).trans HC2
    clear HK2 HC2
    go_wp2_with fail
    go_end0
    refine ⟨rfl, ?_, HC3.out⟩
    rw [ES.out]
    simpa [actK] using HK3.out
  · -- Wait
    obtain ⟨ha0, ha1⟩ := hr4 (.inr rfl)
    clear hr4
    obtain ⟨a', rfl⟩ := Int.eq_ofNat_of_zero_le ha0
    have ha2 : a' < T.n := by omega
    have Hpc : Hid (T.pc p ≤ 32 ∧ 0 ≤ T.pc p) := by unfold Hid; rw [Hct.out]; omega
    go_wp2_with fail
    refine (await_any _ L _ HK.out p a' hpt ha2 Hpc.out).mono ?_
    rintro e w2 ⟨rfl, HK2, HC2⟩
    have HK3 : Hid (KAt w2 L (awaitK T p a')) := HK2
    have HC3 : Hid (Chg L.mem w w2) := HC.out.trans HC2
    clear HK2 HC2
    go_wp2_with fail
    go_end0
    refine ⟨rfl, ?_, HC3.out⟩
    rw [ES.out]
    simpa [actK] using HK3.out
  · -- Write2
    clear hr4
    have f := HK.out.f6
    have hpc : T.pc p ≤ 32 ∧ 0 ≤ T.pc p := by rw [Hct.out]; omega
    have Hpc : Hid (T.pc p ≤ 32 ∧ 0 ≤ T.pc p) := hpc
    clear hpc
    by_cases hfull : 3 ≤ T.pipe2.length
    · have HE : Hid (actK T p 9 a ok = sleepK T p 7) := by unfold Hid; simp [actK, putK, pget, hfull]
      have Hlen : Hid (T.pipe2.length ≤ 3) := HK.out.hq
      generalize hm : T.pipe2.length = m at *
      have Hm : Hid (T.pipe2.length = m) := hm
      clear hm
      go_wp2_with fail
      refine (put_full _ L _ HK p hpt _ m hfull _ _).mono ?_
      rintro e w2 ⟨rfl, HK2, HC2⟩
      have HK3 : Hid (KAt w2 L (sleepK T p 7)) := HK2
      have HC3 : Hid (Chg L.mem w w2) := HC.out.trans HC2
      clear HK2 HC2 f
      have f := HK3.out.f6
      have z := HK3.out.zk 6
      go_wp2_with fail
      go_end0
      refine ⟨rfl, ?_, HC3.out.setCell (.inl (by simp [Lay.mem, Lay.list])) _⟩
      rw [ES.out, HE.out]
      have h := HK3.out.setPipe2 T.pipe2 (by rw [Hm.out]; exact Hlen.out) HK3.out.q
      rw [Hm.out] at h
      exact h
    · have HE : Hid (actK T p 9 a ok = pset (wake (pcInc T p) 8) false (T.pipe2 ++ [T.acc p])) := by unfold Hid; simp [actK, putK, pget, hfull]
      generalize hm : T.pipe2.length = m at *
      have Hm : Hid (T.pipe2.length = m) := hm
      clear hm
      have hroom : m < 3 := by omega
      clear hfull
      go_wp2_with fail
      refine (put_room _ L _ HK p hpt L.q T.pipe2 (isPipe_of L T false) m Hm hroom Hpc.out _ _).mono ?_
      rintro e w2 ⟨rfl, HK2, HB2, HC2⟩
      have HK3 : Hid (KAt w2 L (wake (pcInc T p) 8)) := HK2
      have HC3 : Hid (Chg L.mem w w2) := HC.out.trans HC2
      have HB3 : Hid (Buf w2 L.q 3 (T.pipe2 ++ [T.acc p])) := HB2
      clear HK2 HC2 HB2 f
      have f := HK3.out.f6
      have z := HK3.out.zk 6
      go_wp2_with fail
      go_end0
      refine ⟨rfl, ?_, HC3.out.setCell (.inl (by simp [Lay.mem, Lay.list])) _⟩
      rw [ES.out, HE.out]
      have h := HK3.out.setPipe2 (T.pipe2 ++ [T.acc p]) (by simp; rw [Hm.out]; omega) HB3.out
      simp only [List.length_append, List.length_singleton, Hm.out] at h
      exact h
  · -- Read2
    clear hr4
    have f := HK.out.f6
    have Hpc : Hid (T.pc p ≤ 32 ∧ 0 ≤ T.pc p) := by unfold Hid; rw [Hct.out]; omega
    have Hlen : Hid (T.pipe2.length ≤ 3) := HK.out.hq
    rcases hpipe : T.pipe2 with _ | ⟨x, r⟩
    · have HE : Hid (actK T p 10 a ok = sleepK T p 8) := by unfold Hid; simp [actK, takeK, pget, hpipe]
      rw [hpipe] at f
      have HPI : Hid (T.pipe2 = []) := hpipe
      clear hpipe
      simp only [List.length_nil] at f
      go_wp2_with fail
      refine (take_empty _ L _ HK p hpt _ _ _).mono ?_
      rintro e w2 ⟨rfl, HK2, HC2⟩
      have HK3 : Hid (KAt w2 L (sleepK T p 8)) := HK2
      have HC3 : Hid (Chg L.mem w w2) := HC.out.trans HC2
      clear HK2 HC2 f
      have f := HK3.out.f6
      have z := HK3.out.zk 6
      go_wp2_with fail
      go_end0
      refine ⟨rfl, ?_, HC3.out.setCell (.inl (by simp [Lay.mem, Lay.list])) _⟩
      rw [ES.out, HE.out]
      have h := HK3.out.setPipe2 T.pipe2 Hlen.out HK3.out.q
      have e0 : T.pipe2.length = 0 := by rw [HPI.out]; rfl
      rw [e0] at h
      exact h
    · have HE : Hid (actK T p 10 a ok = pset (wake (pcInc { T with acc := upd T.acc p (wrap64 (T.acc p + x)) } p) 7) false r) := by unfold Hid; simp [actK, takeK, pget, hpipe]
      rw [hpipe] at f
      have HPI : Hid (pget T false = x :: r) := hpipe
      have Hl2 : Hid ((x :: r).length ≤ 3) := by have := Hlen.out; rw [hpipe] at this; exact this
      clear hpipe Hlen
      generalize hm : (x :: r).length = m at *
      have Hm : Hid ((x :: r).length = m) := hm
      clear hm
      go_wp2_with fail
      refine (take_some _ L _ HK p hpt false x r HPI m Hm Hpc.out _ _).mono ?_
      rintro e w2 ⟨rfl, ⟨l', hl', HK2⟩, HB2, HC2⟩
      have HK3 : Hid (KAt w2 L (wake (pcInc { pset T false l' with acc := upd T.acc p (wrap64 (T.acc p + x)) } p) 7)) := HK2
      have HC3 : Hid (Chg L.mem w w2) := HC.out.trans HC2
      have HB3 : Hid (Buf w2 L.q 3 r) := HB2
      clear HK2 HC2 HB2 f hl'
      have f := HK3.out.f6
      have z := HK3.out.zk 6
      go_wp2_with fail
      go_end0
      refine ⟨rfl, ?_, HC3.out.setCell (.inl (by simp [Lay.mem, Lay.list])) _⟩
      rw [ES.out, HE.out]
      have e1 : r.length = m - 1 := by have := Hm.out; simp at this; omega
      have h := HK3.out.setPipe2 r (by have h9 : m ≤ 3 := Hl2.out; omega) HB3.out
      rw [e1] at h
      exact h
end Go.Proofs.Ygdapg
