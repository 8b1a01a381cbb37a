/-
  The run of the model: plain, and ModelRun WALKED.
-/
import Derived.Test.YgdapgE5
import Derived.Test.YgdapgInv
set_option linter.unusedSimpArgs false
set_option linter.unusedVariables false
namespace Go.Proofs.Ygdapg
open Go.RowKit

def quantumP (pl : Nat → Nat) (pg : Nat → Nat → Int × Int) (k : KS) (p : Nat) : KS := quantumK k p (pl p) (pg p)
/-- The kernel after the quanta of the processes ps, one behind the other. -/
def runK (pl : Nat → Nat) (pg : Nat → Nat → Int × Int) (k : KS) (ps : List Nat) : KS := ps.foldl (quantumP pl pg) k
theorem runK_snoc (pl : Nat → Nat) (pg : Nat → Nat → Int × Int) (k : KS) (ps : List Nat) (p : Nat) : runK pl pg k (ps ++ [p]) = quantumP pl pg (runK pl pg k ps) p := by simp [runK]
/-- Each of ps was picked. -/
def PicksOk (Pk : KS → Int → Prop) (pl : Nat → Nat) (pg : Nat → Nat → Int × Int) (k : KS) (ps : List Nat) : Prop := ∀ (i p : Nat), ps[i]? = some p → Pk (runK pl pg k (ps.take i)) (p : Int)
theorem picksOk_nil (Pk : KS → Int → Prop) (pl : Nat → Nat) (pg : Nat → Nat → Int × Int) (k : KS) : PicksOk Pk pl pg k [] := fun i p h => by simp at h
theorem picksOk_snoc {Pk : KS → Int → Prop} {pl : Nat → Nat} {pg : Nat → Nat → Int × Int} {k : KS} {ps : List Nat} {p : Nat} (h : PicksOk Pk pl pg k ps) (hp : Pk (runK pl pg k ps) p) : PicksOk Pk pl pg k (ps ++ [p]) := by
  intro i q hq
  rcases Nat.lt_trichotomy i ps.length with hi | hi | hi
  · rw [List.getElem?_append_left hi] at hq
    rw [List.take_append_of_le_length (by omega)]
    exact h i q hq
  · subst hi
    have : q = p := by simpa using hq.symm
    subst this
    rw [List.take_append_of_le_length (Nat.le_refl _), List.take_length]
    exact hp
  · rw [List.getElem?_append_right (by omega)] at hq
    have : 1 ≤ i - ps.length := by omega
    rw [List.getElem?_eq_none (by simpa using this)] at hq
    cases hq

/-- A pick of a process: it is one of the table and runnable. -/
def Picks (Pk : KS → Int → Prop) : Prop := ∀ k (p : Nat), Pk k p → p < k.n ∧ k.st p = 0
theorem pickOk_picks : Picks PickOk := fun k p h => by
  rcases h with ⟨h, _⟩ | ⟨q, hq, h1, h2, _⟩
  · omega
  · obtain rfl : p = q := by omega
    exact ⟨h1, h2⟩

theorem quantumK_n (k : KS) (p l : Nat) (g : Nat → Int × Int) : (quantumK k p l g).n = k.n := stepK_n _ _ _ _
theorem runK_n (pl : Nat → Nat) (pg : Nat → Nat → Int × Int) : ∀ (ps : List Nat) (k : KS), (runK pl pg k ps).n = k.n
  | [], _ => rfl
  | p :: ps, k => by
    show (runK pl pg (quantumP pl pg k p) ps).n = k.n
    rw [runK_n pl pg ps]; exact quantumK_n _ _ _ _

theorem run_inv {Pk : KS → Int → Prop} (hPk : Picks Pk) {pl : Nat → Nat} {pg : Nat → Nat → Int × Int} : ∀ (ps : List Nat) (k : KS), Inv k → (∀ i, i < k.n → pl i ≤ 32) → PicksOk Pk pl pg k ps → Inv (runK pl pg k ps)
  | [], _, h, _, _ => h
  | p :: ps, k, h, hl, ho => by
    have h0 := ho 0 p rfl
    obtain ⟨h1, h2⟩ := hPk k p h0
    refine run_inv hPk ps (quantumP pl pg k p) (h.quantum p (pl p) (pg p) h1 h2 (hl p h1)) (fun i hi => hl i (by rw [← quantumK_n k p (pl p) (pg p)]; exact hi)) (fun i q hq => ?_)
    exact ho (i + 1) q (by simpa using hq)

theorem quantumK_trace (k : KS) (p l : Nat) (g : Nat → Int × Int) : (quantumK k p l g).trace = k.trace ++ [(p : Int) * 16 + (fetchK k.n l g (k.pc p).toNat).1] := stepK_trace _ _ _ _
theorem runK_trace_len (pl : Nat → Nat) (pg : Nat → Nat → Int × Int) : ∀ (ps : List Nat) (k : KS), (runK pl pg k ps).trace.length = k.trace.length + ps.length
  | [], _ => rfl
  | p :: ps, k => by
    show (runK pl pg (quantumP pl pg k p) ps).trace.length = _
    rw [runK_trace_len pl pg ps]
    show (quantumK k p (pl p) (pg p)).trace.length + ps.length = _
    rw [quantumK_trace]
    simp; omega

theorem Chg.over {S : Nat → Prop} {a b c : World} (h : Chg No a b) (k : Chg S b c) (hs : ∀ i, S i → a.heap.size ≤ i) : Chg No a c :=
  ⟨k.os.trans h.os, k.tape.trans h.tape, k.output.trans h.output, Nat.le_trans h.size k.size, fun i hi _ => (k.block i (Nat.lt_of_lt_of_le hi h.size) (fun hh => by have := hs i hh; omega)).trans (h.block i hi (fun h => h))⟩

set_option maxRecDepth 100000 in
set_option maxHeartbeats 2000000 in
theorem modelRun_in (w : World) (B : Nat) (a : Option Addr) (N c : Nat) (q : Int) (pl : Nat → Nat) (pg : Nat → Nat → Int × Int) (HV : Hid (ProgsAt B w (.slice a N c) N pl pg)) (hB : B ≤ w.heap.size) (HI : Hid (InB N pl q)) :
    Calls Yapd.prog 17 #[.slice a N c, .int .i64 q] w fun e w' => ∃ (ps : List Nat) (b1 b2 b3 b4 b5 b6 : Nat),
      e = .returned (.agg #[.bool false, .slice (some ⟨b1, 0, none⟩) N N, .slice (some ⟨b2, 0, none⟩) N N, .slice (some ⟨b3, 0, none⟩) N N, .slice (some ⟨b4, 0, none⟩) (runK pl pg (bootK N) ps).pipe.length (runK pl pg (bootK N) ps).pipe.length,
        .slice (some ⟨b5, 0, none⟩) (runK pl pg (bootK N) ps).pipe2.length (runK pl pg (bootK N) ps).pipe2.length, .slice (some ⟨b6, 0, none⟩) (runK pl pg (bootK N) ps).trace.length (runK pl pg (bootK N) ps).trace.length, .int .i64 (runK pl pg (bootK N) ps).ticks]) ∧
      w'.heap[b1]? = some (.cells (arr N (runK pl pg (bootK N) ps).st) 3 (0, 0)) ∧ w'.heap[b6]? = some (.cells (arr (runK pl pg (bootK N) ps).trace.length fun i => (runK pl pg (bootK N) ps).trace.getD i 0) 3 (0, 0)) ∧
      Chg No w w' ∧ PicksOk PickOk pl pg (bootK N) ps ∧ ((ps.length : Int) = q ∨ ((ps.length : Int) ≤ q ∧ PickOk (runK pl pg (bootK N) ps) (-1))) := by
  obtain ⟨hN, hq0, hq1, hpl⟩ := HI.out
  have HB : Hid (B ≤ w.heap.size) := hB
  have HPL : Hid (∀ i, i < N → pl i ≤ 32) := hpl
  clear hB hpl
  go_enter Yapd.func17, Yapd.ntmps17
  go_wp2_with fail
  have BX0 := Boxed.new w #[.bool false, .slice none 0 0, .slice none 0 0, .slice none 0 0, .slice none 0 0, .slice none 0 0, .slice none 0 0, .int .i64 0] 25
  have C0 : Chg No w (w.alloc (.cells #[.bool false, .slice none 0 0, .slice none 0 0, .slice none 0 0, .slice none 0 0, .slice none 0 0, .slice none 0 0, .int .i64 0] 25)) := (Chg.refl _ _).alloc _
  generalize w.alloc (.cells #[.bool false, .slice none 0 0, .slice none 0 0, .slice none 0 0, .slice none 0 0, .slice none 0 0, .slice none 0 0, .int .i64 0] 25) = W at *
  have HBX0 : Hid (Boxed w.heap.size 8 W) := BX0
  have HC0 : Hid (Chg No w W) := C0
  clear BX0 C0
  have below0 : Hid (∀ w', Chg No w w' → Below B w w') := fun w' h => (h.below (B := w.heap.size) (Nat.le_refl _) (fun _ h => h.elim)).mono HB.out
  refine (inBounds_any _ B _ N pl pg (HV.out.below (below0.out _ HC0.out)) ⟨by unfold maxLen; omega, fun i hi => by have := HPL.out i hi; unfold maxLen; omega⟩ q).mono ?_
  rintro e w' ⟨⟨r, rfl, hr⟩, hw⟩
  subst w'
  have hrt : r = true := hr.2 HI.out
  subst hrt
  clear hr
  go_wp2_with fail
  refine (boot_any _ N hN).mono ?_
  rintro e w1 ⟨L, rfl, HK1, hL1, HC1⟩
  have Hrb : Hid (∃ rb, rb = w.heap.size) := ⟨_, rfl⟩
  have hrbL0 : ¬ L.mem w.heap.size := fun h => by
    have h1 := hL1 _ h
    obtain ⟨cs, e, h2, _⟩ := HBX0.out
    have := heap_lt h2
    omega
  have hL0 : Hid (∀ b, L.mem b → w.heap.size ≤ b) := fun b hb => Nat.le_trans HC0.out.size (hL1 b hb)
  have HBX : Hid (Boxed w.heap.size 8 w1) := HBX0.out.chg HC1 (fun h => h)
  have HCW : Hid (Chg No w w1) := HC0.out.trans HC1
  have hrbL : Hid (¬ L.mem w.heap.size) := hrbL0
  have HKB : Hid (KAt w1 L (bootK N)) := HK1
  clear HK1 hL1 HC1 HBX0 HC0 hrbL0 Hrb
  go_wp2_with fail
  go_loopw [6] (fun i wr => ∃ t : Nat, ∃ ps : List Nat, i = .int .i64 t ∧ Hid (ps.length = t) ∧ (t : Int) ≤ q ∧ Hid (KAt wr L (runK pl pg (bootK N) ps)) ∧ Hid (Chg L.mem w1 wr) ∧ Hid (PicksOk PickOk pl pg (bootK N) ps)) (fun i _ => (q - intOf i).toNat)
  case atStart => exact ⟨0, [], rfl, rfl, by omega, HKB.out, Chg.refl _ _, picksOk_nil _ _ _ _⟩
  case round =>
    obtain ⟨t, ps, rfl, Hlen, htq, HK, HC, HP⟩ := hrel
    have hkn : (runK pl pg (bootK N) ps).n = N := runK_n pl pg ps (bootK N)
    have hinv : Inv (runK pl pg (bootK N) ps) := run_inv pickOk_picks ps (bootK N) (Inv.boot N hN) HPL.out HP.out
    have HIV : Hid (Inv (runK pl pg (bootK N) ps)) := hinv
    have HKN : Hid ((runK pl pg (bootK N) ps).n = N) := hkn
    clear hinv hkn
    by_cases hlt : (t : Int) < q
    · go_wp2_with fail
      refine (pick_any _ L _ HK.out HIV.out.last.1 HIV.out.last.2).mono ?_
      rintro e w' ⟨⟨r, rfl, hpk⟩, hw⟩
      subst w'
      have HPK : Hid (PickOk (runK pl pg (bootK N) ps) r) := hpk
      clear hpk
      by_cases hr : r < 0
      · have hr1 : r = -1 := by
          rcases HPK.out with ⟨h, _⟩ | ⟨x, h, _⟩ <;> omega
        subst hr1
        go_wp2_with fail
        refine (result_any _ L _ HK).mono ?_
        rintro e w3 ⟨b1, b2, b3, b4, b5, b6, rfl, G1, G6, Gs, C3⟩
        have hBx : Boxed w.heap.size 8 w3 := (HBX.out.chg HC.out (fun h => hrbL.out h)).chg C3 (fun h => h)
        have hth : w3.there w.heap.size 0 8 := fun j hj => ⟨by rw [Nat.zero_add, hBx.cell hj]; rfl, hBx.fz⟩
        have hrl : w.heap.size < wr.heap.size := by
          obtain ⟨cs, e, h2, _⟩ := HBX.out
          exact Nat.lt_of_lt_of_le (heap_lt h2) HC.out.size
        have HLT : Hid (b1 ≠ w.heap.size ∧ b6 ≠ w.heap.size) := ⟨by omega, by omega⟩
        have HT : Hid (w3.there w.heap.size 0 8) := hth
        have HG1 : Hid (w3.heap[b1]? = _) := G1
        have HG6 : Hid (w3.heap[b6]? = _) := G6
        have HC3 : Hid (Chg No wr w3) := C3
        clear hBx hth G1 G6 C3 Gs hrl
        go_wp2_with (first | (refine wpList_store_mid rfl 25 _ _ rfl w.heap.size 0 _ rfl rfl HT.out (by kernel_rfl) (by simp [Value.oneCell']) ?_))
        have hrg := World.rangeAt_setCells_same w3 w.heap.size 0 [.bool false, .slice (some ⟨b1, 0, none⟩) (runK pl pg (bootK N) ps).n (runK pl pg (bootK N) ps).n, .slice (some ⟨b2, 0, none⟩) (runK pl pg (bootK N) ps).n (runK pl pg (bootK N) ps).n, .slice (some ⟨b3, 0, none⟩) (runK pl pg (bootK N) ps).n (runK pl pg (bootK N) ps).n, .slice (some ⟨b4, 0, none⟩) (runK pl pg (bootK N) ps).pipe.length (runK pl pg (bootK N) ps).pipe.length, .slice (some ⟨b5, 0, none⟩) (runK pl pg (bootK N) ps).pipe2.length (runK pl pg (bootK N) ps).pipe2.length, .slice (some ⟨b6, 0, none⟩) (runK pl pg (bootK N) ps).trace.length (runK pl pg (bootK N) ps).trace.length, .int .i64 (runK pl pg (bootK N) ps).ticks] HT.out
        refine bodyPost_ret (results_box Yapd.results17 rfl hrg Yapd.underlying25 rfl (by kernel_rfl)) rfl ?_
        refine ⟨ps, b1, b2, b3, b4, b5, b6, by rw [HKN.out], ?_, ?_, ?_, HP.out, .inr ⟨by rw [Hlen.out]; exact htq, HPK.out⟩⟩
        · rw [heap_setCells_ne HLT.out.1]; have h := HG1.out; rw [HKN.out] at h; exact h
        · rw [heap_setCells_ne HLT.out.2]; exact HG6.out
        · exact Chg.setCells (.inr (Nat.le_refl _)) _ _ _ ((HCW.out.over HC.out hL0.out).trans HC3.out)
      · obtain ⟨p, rfl⟩ := Int.eq_ofNat_of_zero_le (show 0 ≤ r by omega)
        have hpp := pickOk_picks _ p HPK.out
        rw [HKN.out] at hpp
        obtain ⟨hp1, hp2⟩ := hpp
        have HP2 : Hid ((runK pl pg (bootK N) ps).st p = 0) := hp2
        clear hp2
        have hB1 : Below B w wr := below0.out _ (HCW.out.over HC.out hL0.out)
        obtain ⟨a', c', he, hv⟩ := HV.out.below hB1
        obtain ⟨rfl, -, rfl⟩ : a = a' ∧ N = N ∧ c = c' := by simpa using he
        obtain ⟨pb, po, pv, rfl, hpb, hpc⟩ := hv (by omega)
        obtain ⟨c0, hprog⟩ := hpc p hp1
        have HPR : Hid (ProgAt B wr (pv p) (pl p) (pg p)) := hprog
        have HBW : Hid (B ≤ wr.heap.size) := Nat.le_trans HB.out hB1.size
        clear hpc hprog he hv hB1
        go_wp2_with fail
        refine (quantum_any _ L _ HK p (by rw [HKN.out]; exact hp1) B (pv p) (pl p) (pg p) HPR (HPL.out p hp1) (fun b hb => Nat.le_trans HB.out (hL0.out b hb)) HBW
          ((HIV.out.ci 0).pc p (by rw [HKN.out]; exact hp1)) (by unfold Hid; rw [runK_trace_len, Hlen.out]; simp [bootK]; omega) (by unfold Hid; rw [HIV.out.ticks, runK_trace_len, Hlen.out]; simp [bootK]; omega)).mono ?_
        rintro e w2 ⟨rfl, HK2, HC2⟩
        have HK3 : Hid (KAt w2 L (runK pl pg (bootK N) (ps ++ [p]))) := by unfold Hid; rw [runK_snoc]; exact HK2
        have HC3 : Hid (Chg L.mem w1 w2) := HC.out.trans HC2
        clear HK2 HC2
        go_wp2_with fail
        go_roundw
        case rel => exact ⟨t + 1, ps ++ [p], by go_num, by unfold Hid; simp [Hlen.out], by omega, HK3, HC3, picksOk_snoc HP.out HPK.out⟩
        case measure => simp [intOf]; omega
    · have hqt : (t : Int) = q := by omega
      go_wp2_with fail
      refine (result_any _ L _ HK).mono ?_
      rintro e w3 ⟨b1, b2, b3, b4, b5, b6, rfl, G1, G6, Gs, C3⟩
      have hBx : Boxed w.heap.size 8 w3 := (HBX.out.chg HC.out (fun h => hrbL.out h)).chg C3 (fun h => h)
      have hth : w3.there w.heap.size 0 8 := fun j hj => ⟨by rw [Nat.zero_add, hBx.cell hj]; rfl, hBx.fz⟩
      have hrl : w.heap.size < wr.heap.size := by
        obtain ⟨cs, e, h2, _⟩ := HBX.out
        exact Nat.lt_of_lt_of_le (heap_lt h2) HC.out.size
      have HLT : Hid (b1 ≠ w.heap.size ∧ b6 ≠ w.heap.size) := ⟨by omega, by omega⟩
      have HT : Hid (w3.there w.heap.size 0 8) := hth
      have HG1 : Hid (w3.heap[b1]? = _) := G1
      have HG6 : Hid (w3.heap[b6]? = _) := G6
      have HC3 : Hid (Chg No wr w3) := C3
      clear hBx hth G1 G6 C3 Gs hrl
      go_wp2_with (first | (refine wpList_store_mid rfl 25 _ _ rfl w.heap.size 0 _ rfl rfl HT.out (by kernel_rfl) (by simp [Value.oneCell']) ?_))
      have hrg := World.rangeAt_setCells_same w3 w.heap.size 0 [.bool false, .slice (some ⟨b1, 0, none⟩) (runK pl pg (bootK N) ps).n (runK pl pg (bootK N) ps).n, .slice (some ⟨b2, 0, none⟩) (runK pl pg (bootK N) ps).n (runK pl pg (bootK N) ps).n, .slice (some ⟨b3, 0, none⟩) (runK pl pg (bootK N) ps).n (runK pl pg (bootK N) ps).n, .slice (some ⟨b4, 0, none⟩) (runK pl pg (bootK N) ps).pipe.length (runK pl pg (bootK N) ps).pipe.length, .slice (some ⟨b5, 0, none⟩) (runK pl pg (bootK N) ps).pipe2.length (runK pl pg (bootK N) ps).pipe2.length, .slice (some ⟨b6, 0, none⟩) (runK pl pg (bootK N) ps).trace.length (runK pl pg (bootK N) ps).trace.length, .int .i64 (runK pl pg (bootK N) ps).ticks] HT.out
      refine bodyPost_ret (results_box Yapd.results17 rfl hrg Yapd.underlying25 rfl (by kernel_rfl)) rfl ?_
      refine ⟨ps, b1, b2, b3, b4, b5, b6, by rw [HKN.out], ?_, ?_, ?_, HP.out, .inl (by rw [Hlen.out]; exact hqt)⟩
      · rw [heap_setCells_ne HLT.out.1]; have h := HG1.out; rw [HKN.out] at h; exact h
      · rw [heap_setCells_ne HLT.out.2]; exact HG6.out
      · exact Chg.setCells (.inr (Nat.le_refl _)) _ _ _ ((HCW.out.over HC.out hL0.out).trans HC3.out)
end Go.Proofs.Ygdapg
