/-
  advance, WALKED.
-/
import Derived.Test.YgdapgH5
import Derived.Test.YgdapgM1
set_option linter.unusedSimpArgs false
set_option linter.unusedVariables false
namespace Go.Proofs.Ygdapg
open Go.RowKit

section
variable {B : Nat} {L : Lay} {X X' S : Nat → Prop} {k k' : KS} {N : Nat} {mv : Value} {ms : List Mo} {cf : Nat → List Value} {w w' : World} {V : Value}
theorem Start.turn (h : Start B L X k N mv ms cf w V) (hc : Chg S w w') (hs : ∀ b, S b → X b) (hk : KAt w' L k') : Start B L X k' N mv ms cf w' V :=
  ⟨hk, h.hist.chg hc hs, h.arena.chgS hc (fun b hab hb => (h.ab b hab).2 (hs b hb)), h.ab, Nat.le_trans h.hB hc.size, h.sub, fun b hb => Nat.lt_of_lt_of_le (h.xlt b hb) hc.size⟩
theorem Start.box (h : Start B L X k N mv ms cf w V) (hc : Chg No w w') (hx : ∀ b, X b → X' b) (hX : ∀ b, X' b → X b ∨ (w.heap.size ≤ b ∧ b < w'.heap.size)) : Start B L X' k N mv ms cf w' V := by
  have hx' : ∀ b, X' b → X b ∨ w.heap.size ≤ b := fun b hb => (hX b hb).imp id (·.1)
  refine ⟨h.kat.chg hc (fun _ _ h => h), (h.hist.moreX hx').chg hc (fun _ h => h.elim), h.arena.noS hc, fun b hab => ⟨(h.ab b hab).1, fun hb => ?_⟩, Nat.le_trans h.hB hc.size, fun b hb => hx b (h.sub b hb), fun b hb => ?_⟩
  · rcases hx' b hb with h1 | h1
    · exact (h.ab b hab).2 h1
    · have := AB.lt h.arena hab; omega
  · rcases hX b hb with h1 | h1
    · exact Nat.lt_of_lt_of_le (h.xlt b h1) hc.size
    · exact h1.2
theorem Start.less (h : Start B L X' k N mv ms cf w V) (hx : ∀ b, X b → X' b) (hs : ∀ b, L.mem b → X b) : Start B L X k N mv ms cf w V :=
  ⟨h.kat, h.hist.lessX hx, h.arena, fun b hab => ⟨(h.ab b hab).1, fun hb => (h.ab b hab).2 (hx b hb)⟩, h.hB, hs, fun b hb => h.xlt b (hx b hb)⟩
end

/-- The moment that a quantum leaves. -/
def moOf (k : KS) (p l : Nat) (g : Nat → Int × Int) : Mo :=
  ⟨p, (fetchK k.n l g (k.pc p).toNat).1, operandK l g (k.pc p).toNat, (quantumK k p l g).st, (quantumK k p l g).wo, (quantumK k p l g).su, (quantumK k p l g).acc, (quantumK k p l g).pipe, (quantumK k p l g).pipe2⟩

/-- What advance leaves. -/
def AdvPost (B : Nat) (L : Lay) (X : Nat → Prop) (k : KS) (N : Nat) (ms : List Mo) (m : Mo) (w : World) (e : Ending) (w' : World) : Prop :=
  ∃ mv V cf, e = .returned (.agg #[.int .i64 (N : Int), .bool true, mv, V]) ∧ Start B L X k N mv (ms ++ [m]) cf w' V ∧ Chg (fun b => L.mem b ∨ (B ≤ b ∧ ¬ X b)) w w'

set_option maxRecDepth 100000 in
set_option maxHeartbeats 1000000 in
theorem advance_any (w : World) (B : Nat) (L : Lay) (X : Nat → Prop) (k : KS) (N : Nat) (mv V : Value) (ms : List Mo) (cf : Nat → List Value) (H : Hid (Start B L X k N mv ms cf w V)) (p : Nat) (hp : p < k.n) (v : Value) (l : Nat) (g : Nat → Int × Int) (HV : Hid (ProgAt B w v l g)) (hl : l ≤ 32) (HB : Hid (∀ b, L.mem b → B ≤ b))
    (HI : Hid (Inv k)) (hs0 : Hid (k.st p = 0)) (t : Nat) (Ht : Hid (k.trace.length = t)) (ht : t ≤ 255) (M : Nat) (HM : Hid (ms.length = M)) (hM : M ≤ 256) (HNK : Hid (k.n = N)) :
    Calls Yapd.prog 43 #[.agg #[.int .i64 (N : Int), .bool true, mv, V], .pointer (some ⟨L.kb, 0, none⟩), .int .i64 p, v] w (AdvPost B L X (quantumK k p l g) N ms (moOf k p l g) w) := by
  have f0 := H.out.kat.f0
  have f1 := H.out.kat.f1
  have hn := H.out.kat.hn
  have c0 := H.out.kat.cs hp
  have c1 := H.out.kat.cc hp
  have z0 := H.out.kat.zs p
  have k1 := cell_lt f0
  have k2 := cell_lt c0
  have k3 := cell_lt c1
  have HI2 : Hid (Inv (quantumK k p l g)) := HI.out.quantum p l g hp hs0.out hl
  obtain ⟨c, hc⟩ := Int.eq_ofNat_of_zero_le ((HI.out.ci 0).pc p hp).1
  have hc2 : c ≤ 32 := by have := ((HI.out.ci 0).pc p hp).2; omega
  have HC : Hid (k.pc p = c) := hc
  rw [hc] at c1
  clear hc
  obtain ⟨mq, nq, rfl⟩ : ∃ mq nq, mv = .slice mq M nq := by rw [← HM.out]; exact H.out.hist.shape
  obtain ⟨qa, qm, qc, rfl⟩ := H.out.arena.slice
  have HTK : Hid (0 ≤ k.ticks ∧ k.ticks ≤ 1000) := by have := HI.out.ticks; rw [Ht.out] at this; exact ⟨by omega, by omega⟩
  have hN : N ≤ 32 := by have := HNK.out; omega
  have HF : Hid (0 ≤ (fetchK k.n l g (k.pc p).toNat).1 ∧ (fetchK k.n l g (k.pc p).toNat).1 ≤ 10) := (fetchK_good k.n l g (k.pc p).toNat hl).2.2.2
  go_enter Yapd.func43, Yapd.ntmps43
  go_wp2_with fail
  refine (operand_any _ B v l g (HV.out.below (((((Chg.refl No w).alloc _).alloc _)).below H.out.hB (fun _ h => h.elim))) c hl).mono ?_
  rintro e w0 ⟨rfl, hw⟩
  have hb : w0.heap[w.heap.size]? = some (.cells #[.int .i64 (N : Int), .bool true, .slice mq M nq, .slice qa qm qc] 32 (0, 0)) := by rw [hw]; exact al2_old _ _ _
  have HR : Hid (Boxed (w.heap.size + 1) 4 w0) := ⟨_, _, by rw [hw]; exact al2_new _ _ _, rfl⟩
  have HC0 : Hid (Chg No w w0) := by rw [hw]; exact ((Chg.refl _ _).alloc _).alloc _
  have hsz : w0.heap.size = w.heap.size + 2 := by rw [hw]; simp
  clear hw
  have S0 : Hid (Start B L (fun b => X b ∨ b = w.heap.size ∨ b = w.heap.size + 1) k N (.slice mq M nq) ms cf w0 (.slice qa qm qc)) := H.out.box HC0.out (fun b h => .inl h) fun b h => by
    rcases h with h | rfl | rfl
    · exact .inl h
    · exact .inr (by omega)
    · exact .inr (by omega)
  have HB0 : Hid (w0.heap[w.heap.size]? = some (.cells #[.int .i64 (N : Int), .bool true, .slice mq M nq, .slice qa qm qc] 32 (0, 0))) := hb
  clear f0 f1 c0 c1 z0 k1 k2 k3 hb
  have f0 := S0.out.kat.f0
  have c0 := S0.out.kat.cs hp
  have z0 := S0.out.kat.zs p
  have k1 := cell_lt f0
  have k2 := cell_lt c0
  go_wp2_with fail
  have C1 : Chg L.mem w0 (w0.setCell ⟨L.s, p, none⟩ (.int .i64 1)) := (Chg.refl _ _).setCell (.inl (by simp [Lay.mem, Lay.list])) _
  have V1 : ProgAt B (w0.setCell ⟨L.s, p, none⟩ (.int .i64 1)) v l g := (HV.out.below (HC0.out.below H.out.hB (fun _ h => h.elim))).below (C1.below S0.out.hB HB.out)
  refine (step_any _ L (setRun k p) (S0.out.kat.setSt p 1) p hp B v l g V1 hl c HC.out hc2 (upd_same _ _ _) t Ht.out (by omega)).mono ?_
  rintro e w1 ⟨rfl, HK1, HC1⟩
  have HK2 : Hid (KAt w1 L (stepK (setRun k p) p l g)) := HK1
  have HC2 : Hid (Chg L.mem w0 w1) := C1.trans HC1
  clear HK1 HC1 C1 V1 f0 c0 z0 k1 k2
  go_wp2_with fail
  refine (settle_any _ L _ HK2.out p (by rw [stepK_n]; exact hp) (by rw [stepK_ticks]; exact HTK.out.1) (by rw [stepK_ticks]; exact HTK.out.2)).mono ?_
  rintro e w2 ⟨rfl, HK3, HC3⟩
  have HC4 : Hid (Chg L.mem w0 w2) := HC2.out.trans HC3
  have S2 : Hid (Start B L (fun b => X b ∨ b = w.heap.size ∨ b = w.heap.size + 1) (quantumK k p l g) N (.slice mq M nq) ms cf w2 (.slice qa qm qc)) := S0.out.turn HC4.out (fun b h => S0.out.sub b h) HK3
  clear HK3 HC3
  have nm : ∀ b, w.heap.size ≤ b → ¬ L.mem b := fun b hb hm => by have := H.out.kat.lt hm; omega
  have hb : w2.heap[w.heap.size]? = some (.cells #[.int .i64 (N : Int), .bool true, .slice mq M nq, .slice qa qm qc] 32 (0, 0)) := by
    rw [HC4.out.block _ (by omega) (nm _ (by omega))]; exact HB0.out
  have HR2 : Hid (Boxed (w.heap.size + 1) 4 w2) := HR.out.chg HC4.out (nm _ (by omega))
  have hs2 : w.heap.size + 2 ≤ w2.heap.size := by have := HC4.out.size; omega
  have g0 : w2.cell? ⟨w.heap.size, 0, none⟩ = some (.int .i64 (N : Int)) := by rw [cell_of hb]; rfl
  have g1 : w2.cell? ⟨w.heap.size, 1, none⟩ = some (.bool true) := by rw [cell_of hb]; rfl
  have g2 : w2.cell? ⟨w.heap.size, 2, none⟩ = some (.slice mq M nq) := by rw [cell_of hb]; rfl
  have g3 : w2.cell? ⟨w.heap.size, 3, none⟩ = some (.slice qa qm qc) := by rw [cell_of hb]; rfl
  have NM : Hid (∀ b, w.heap.size ≤ b → ¬ L.mem b) := nm
  clear hb nm
  go_wp2_with fail
  have htr := quantumK_trace k p l g
  refine (observe_any w2 B L _ (quantumK k p l g) N _ _ ms cf S2 HI2 p _ t (by rw [Hid, htr, List.length_append, Ht.out]; rfl) ht ((p : Int) * 16 + (fetchK k.n l g (k.pc p).toNat).1) (by rw [Hid, htr, ← Ht.out]; simp) (by have := HF.out; omega) (by have := HF.out; omega) M HM hM hN (by rw [Hid, quantumK_n]; exact HNK.out)).mono ?_
  rintro e w3 ⟨mv', V', cf', rfl, HS, HC5⟩
  obtain ⟨mr, nr, rfl⟩ : ∃ mr nr, mv' = .slice mr (M + 1) nr := by have := HS.hist.shape; rw [List.length_append, HM.out] at this; exact this
  obtain ⟨ra, rm, rc, rfl⟩ := HS.arena.slice
  have HS3 : Hid (Start B L _ (quantumK k p l g) N (.slice mr (M + 1) nr) _ cf' w3 (.slice ra rm rc)) := HS
  have HC6 : Hid (Chg _ w2 w3) := HC5
  clear HS HC5 htr g0 g1 g2 g3
  have HR3 : Hid (Boxed (w.heap.size + 1) 4 w3) := HR2.out.chg HC6.out (fun h => h.2 (.inr (.inr rfl)))
  have hs3 : w.heap.size + 1 < w3.heap.size := by have := HC6.out.size; omega
  have r0 := HR3.out.cell (i := 0) (by omega)
  have r1 := HR3.out.cell (i := 1) (by omega)
  have r2 := HR3.out.cell (i := 2) (by omega)
  have r3 := HR3.out.cell (i := 3) (by omega)
  have s0 := HR3.out.fz (i := 0)
  have s1 := HR3.out.fz (i := 1)
  have s2 := HR3.out.fz (i := 2)
  have s3 := HR3.out.fz (i := 3)
  go_wp2_with fail
  have hrg : (w3.setCells (w.heap.size + 1) 0 [.int .i64 (N : Int), .bool true, .slice mr (M + 1) nr, .slice ra rm rc]).rangeAt (w.heap.size + 1) 0 [.int .i64 (N : Int), .bool true, .slice mr (M + 1) nr, .slice ra rm rc] :=
    World.rangeAt_setCells_same _ _ _ _ fun j hj => ⟨by rw [Nat.zero_add, HR3.out.cell hj]; rfl, by rw [Nat.zero_add]; exact HR3.out.fz⟩
  refine bodyPost_ret (results_box Yapd.results43 rfl hrg Yapd.underlying32 rfl (by kernel_rfl)) rfl ?_
  have C7 : Chg (fun b => b = w.heap.size + 1) w3 (w3.setCells (w.heap.size + 1) 0 [.int .i64 (N : Int), .bool true, .slice mr (M + 1) nr, .slice ra rm rc]) := Chg.setCells (S := fun b => b = w.heap.size + 1) (.inl rfl) _ _ _ (Chg.refl _ _)
  have eo : (k.pc p).toNat = c := by rw [HC.out]; simp
  have em : ((p : Int) * 16 + (fetchK k.n l g (k.pc p).toNat).1) % 16 = (fetchK k.n l g (k.pc p).toNat).1 := by have := HF.out; omega
  have hm : (⟨(p : Int), ((p : Int) * 16 + (fetchK k.n l g (k.pc p).toNat).1) % 16, operandK l g c, (quantumK k p l g).st, (quantumK k p l g).wo, (quantumK k p l g).su, (quantumK k p l g).acc, (quantumK k p l g).pipe, (quantumK k p l g).pipe2⟩ : Mo) = moOf k p l g := by
    rw [em, moOf, eo]
  have HS4 := HS3.out
  rw [hm] at HS4
  refine ⟨_, _, cf', rfl, (HS4.turn C7 (fun b hb => .inr (.inr hb)) (HS4.kat.chg C7 (fun b hm hb => NM.out b (by omega) hm))).less (fun b hb => .inl hb) H.out.sub, ?_⟩
  refine (((HC0.out.mono fun _ h => h.elim).trans (HC4.out.mono fun b h => .inl h)).trans (HC6.out.mono fun b h => .inr ⟨h.1, fun hx => h.2 (.inl hx)⟩)).trans (C7.mono fun b h => .inr ⟨?_, fun hx => ?_⟩)
  · have := H.out.hB; omega
  · have := H.out.xlt b hx; omega
end Go.Proofs.Ygdapg
