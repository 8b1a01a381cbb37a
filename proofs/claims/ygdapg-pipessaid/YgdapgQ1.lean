/-
  One quantum: plain, and quantum (model) WALKED.
-/
import Derived.Test.YgdapgP1
set_option linter.unusedSimpArgs false
set_option linter.unusedVariables false
namespace Go.Proofs.Ygdapg
open Go.RowKit

theorem wakeTo_same (k : KS) (on : Int) (j : Nat) : (wakeTo k on j).n = k.n ∧ (wakeTo k on j).ticks = k.ticks ∧ (wakeTo k on j).last = k.last ∧ (wakeTo k on j).trace = k.trace := ⟨rfl, rfl, rfl, rfl⟩
theorem pset_same (k : KS) (b : Bool) (l : List Int) : (pset k b l).n = k.n ∧ (pset k b l).ticks = k.ticks ∧ (pset k b l).last = k.last ∧ (pset k b l).trace = k.trace := by cases b <;> exact ⟨rfl, rfl, rfl, rfl⟩
theorem putK_same (k : KS) (p : Nat) (b : Bool) (f e : Int) : (putK k p b f e).n = k.n ∧ (putK k p b f e).ticks = k.ticks ∧ (putK k p b f e).last = k.last ∧ (putK k p b f e).trace = k.trace := by
  unfold putK
  split
  · exact ⟨rfl, rfl, rfl, rfl⟩
  · exact pset_same _ _ _
theorem takeK_same (k : KS) (p : Nat) (b : Bool) (f e : Int) : (takeK k p b f e).n = k.n ∧ (takeK k p b f e).ticks = k.ticks ∧ (takeK k p b f e).last = k.last ∧ (takeK k p b f e).trace = k.trace := by
  unfold takeK
  split
  · exact ⟨rfl, rfl, rfl, rfl⟩
  · exact pset_same _ _ _
theorem awaitK_same (k : KS) (p a : Nat) : (awaitK k p a).n = k.n ∧ (awaitK k p a).ticks = k.ticks ∧ (awaitK k p a).last = k.last ∧ (awaitK k p a).trace = k.trace := by
  unfold awaitK
  split <;> exact ⟨rfl, rfl, rfl, rfl⟩
theorem actK_same (k : KS) (p : Nat) (kd a : Int) (ok : Bool) : (actK k p kd a ok).n = k.n ∧ (actK k p kd a ok).ticks = k.ticks ∧ (actK k p kd a ok).last = k.last ∧ (actK k p kd a ok).trace = k.trace := by
  unfold actK
  split
  · exact ⟨rfl, rfl, rfl, rfl⟩
  split
  · exact ⟨rfl, rfl, rfl, rfl⟩
  split
  · exact ⟨rfl, rfl, rfl, rfl⟩
  split
  · exact ⟨rfl, rfl, rfl, rfl⟩
  split
  · exact putK_same _ _ _ _ _
  split
  · exact takeK_same _ _ _ _ _
  split
  · exact putK_same _ _ _ _ _
  split
  · exact takeK_same _ _ _ _ _
  split
  · exact ⟨rfl, rfl, rfl, rfl⟩
  split
  · exact awaitK_same _ _ _
  · exact ⟨rfl, rfl, rfl, rfl⟩
theorem stepK_n (k : KS) (p l : Nat) (g : Nat → Int × Int) : (stepK k p l g).n = k.n := (actK_same _ _ _ _ _).1
theorem stepK_ticks (k : KS) (p l : Nat) (g : Nat → Int × Int) : (stepK k p l g).ticks = k.ticks := (actK_same _ _ _ _ _).2.1
theorem stepK_last (k : KS) (p l : Nat) (g : Nat → Int × Int) : (stepK k p l g).last = k.last := (actK_same _ _ _ _ _).2.2.1
theorem stepK_trace (k : KS) (p l : Nat) (g : Nat → Int × Int) : (stepK k p l g).trace = k.trace ++ [(p : Int) * 16 + (fetchK k.n l g (k.pc p).toNat).1] := (actK_same _ _ _ _ _).2.2.2

/-- Process p runs one quantum. -/
def setRun (k : KS) (p : Nat) : KS := { k with st := upd k.st p 1 }
def quantumK (k : KS) (p l : Nat) (g : Nat → Int × Int) : KS := settleK (stepK (setRun k p) p l g) p

set_option maxHeartbeats 400000 in
theorem quantum_any (w : World) (L : Lay) (k : KS) (H : Hid (KAt w L k)) (p : Nat) (hp : p < k.n) (B : Nat) (v : Value) (l : Nat) (g : Nat → Int × Int) (HV : Hid (ProgAt B w v l g)) (hl : l ≤ 32) (HB : Hid (∀ b, L.mem b → B ≤ b))
    (hB : Hid (B ≤ w.heap.size)) (Hpc : Hid (0 ≤ k.pc p ∧ k.pc p ≤ 32)) (Ht : Hid (k.trace.length < 256)) (Hk : Hid (0 ≤ k.ticks ∧ k.ticks ≤ 1000)) :
    Calls Yapd.prog 41 #[.pointer (some ⟨L.kb, 0, none⟩), .int .i64 p, v] w fun e w' => e = .returned (.tuple #[]) ∧ KAt w' L (quantumK k p l g) ∧ Chg L.mem w w' := by
  have f0 := H.out.f0
  have hn := H.out.hn
  have c0 := H.out.cs hp
  have z0 := H.out.zs p
  obtain ⟨c, hc⟩ := Int.eq_ofNat_of_zero_le Hpc.out.1
  have hc2 : c ≤ 32 := by have := Hpc.out.2; omega
  have HC : Hid (k.pc p = c) := hc
  clear hc
  go_enter Yapd.func41, Yapd.ntmps41
  go_wp2_with fail
  have C1 : Chg L.mem w (w.setCell ⟨L.s, p, none⟩ (.int .i64 1)) := (Chg.refl _ _).setCell (.inl (by simp [Lay.mem, Lay.list])) _
  have V1 : ProgAt B (w.setCell ⟨L.s, p, none⟩ (.int .i64 1)) v l g := HV.out.below (C1.below hB.out HB.out)
  refine (step_any _ L (setRun k p) (H.out.setSt p 1) p hp B v l g V1 hl c HC.out hc2 (upd_same _ _ _) _ rfl Ht.out).mono ?_
  rintro e w1 ⟨rfl, HK1, HC1⟩
  have HK2 : Hid (KAt w1 L (stepK (setRun k p) p l g)) := HK1
  have HC2 : Hid (Chg L.mem w w1) := C1.trans HC1
  clear HK1 HC1 C1 V1
  go_wp2_with fail
  refine (settle_any _ L _ HK2.out p (by rw [stepK_n]; exact hp) (by rw [stepK_ticks]; exact Hk.out.1) (by rw [stepK_ticks]; exact Hk.out.2)).mono ?_
  rintro e w2 ⟨rfl, HK3, HC3⟩
  have HK4 : Hid (KAt w2 L (quantumK k p l g)) := HK3
  have HC4 : Hid (Chg L.mem w w2) := HC2.out.trans HC3
  clear HK3 HC3
  go_wp2_with fail
  go_end0
  exact ⟨rfl, HK4.out, HC4.out⟩
end Go.Proofs.Ygdapg
