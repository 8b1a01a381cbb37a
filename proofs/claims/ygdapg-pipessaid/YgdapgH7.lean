/-
  replay, WALKED.
-/
import Derived.Test.YgdapgH6
set_option linter.unusedSimpArgs false
set_option linter.unusedVariables false
namespace Go.Proofs.Ygdapg
open Go.RowKit

/-- The moments of a run. -/
def momK (pl : Nat → Nat) (pg : Nat → Nat → Int × Int) : KS → List Nat → List Mo
  | _, [] => []
  | k, p :: ps => moOf k p (pl p) (pg p) :: momK pl pg (quantumP pl pg k p) ps
theorem momK_snoc (pl : Nat → Nat) (pg : Nat → Nat → Int × Int) : ∀ (ps : List Nat) (k : KS) (p : Nat), momK pl pg k (ps ++ [p]) = momK pl pg k ps ++ [moOf (runK pl pg k ps) p (pl p) (pg p)]
  | [], _, _ => rfl
  | q :: ps, k, p => by
    show moOf k q (pl q) (pg q) :: momK pl pg _ (ps ++ [p]) = _
    rw [momK_snoc pl pg ps]
    rfl
theorem momK_length (pl : Nat → Nat) (pg : Nat → Nat → Int × Int) : ∀ (ps : List Nat) (k : KS), (momK pl pg k ps).length = ps.length
  | [], _ => rfl
  | q :: ps, k => by
    show (momK pl pg _ ps).length + 1 = _
    rw [momK_length pl pg ps]
    rfl

/-- What replay leaves. -/
def RepPost (Pk : KS → Int → Prop) (w : World) (N : Nat) (q : Int) (pl : Nat → Nat) (pg : Nat → Nat → Int × Int) (e : Ending) (w' : World) : Prop :=
  ∃ (ps : List Nat) (mv V : Value) (cf : Nat → List Value) (X : Nat → Prop), e = .returned (.agg #[.int .i64 (N : Int), .bool true, mv, V]) ∧ HistAt w.heap.size w' V X N mv (momK pl pg (bootK N) ps) cf ∧ (∃ a m c, V = .slice a m c) ∧ Chg No w w' ∧ PicksOk Pk pl pg (bootK N) ps ∧
    ((ps.length : Int) = q ∨ ((ps.length : Int) ≤ q ∧ Pk (runK pl pg (bootK N) ps) (-1)))

theorem Boxed.sets {rb n b : Nat} : ∀ (vs : List Value) (o : Nat) {w : World}, Boxed rb n w → Boxed rb n (w.setCells b o vs)
  | [], _, _, h => h
  | v :: vs, o, _, h => Boxed.sets vs (o + 1) (h.set v)
theorem Boxed.there {rb n : Nat} {w : World} (h : Boxed rb n w) : w.there rb 0 n := fun j hj => ⟨by rw [Nat.zero_add, h.cell hj]; rfl, by rw [Nat.zero_add]; exact h.fz⟩
theorem Boxed.lt {rb n : Nat} {w : World} (h : Boxed rb n w) : rb < w.heap.size := by
  obtain ⟨cs, e, h1, _⟩ := h
  exact heap_lt h1
theorem run_load32 {o : Oper} {a : Act} {W : World} {x : Operand} {b : Nat} {c0 c1 c2 c3 : Value} (ho : o.op = .load 32 x) (hx : a.eval x = .pointer (some ⟨b, 0, none⟩)) (hc : W.rangeAt b 0 [c0, c1, c2, c3]) :
    (execOp a.eval o).run Yapd.prog W = .ok (.value (.agg #[c0, c1, c2, c3])) W := by
  have h := run_loadVar_mid (P := Yapd.prog) W b 0 32 [c0, c1, c2, c3] _ hc Yapd.underlying32 rfl (by kernel_rfl)
  simp [execOp, ho, hx, Instr.loadAt, Instr.sureAddr, h]
theorem rangeAt4 {w : World} {b : Nat} {c0 c1 c2 c3 : Value} (h : w.rangeAt b 0 [c0, c1, c2, c3]) : w.cell? ⟨b, 0, none⟩ = some c0 ∧ w.cell? ⟨b, 1, none⟩ = some c1 ∧ w.cell? ⟨b, 2, none⟩ = some c2 ∧ w.cell? ⟨b, 3, none⟩ = some c3 :=
  ⟨h 0 _ rfl, h 1 _ rfl, h 2 _ rfl, h 3 _ rfl⟩
theorem rangeAt_chg {w w' : World} {S : Nat → Prop} {b o : Nat} {cs : List Value} (h : w.rangeAt b o cs) (hc : Chg S w w') (hs : ¬ S b) (hlt : b < w.heap.size) : w'.rangeAt b o cs := fun j v hv => by
  rw [hc.cell (p := ⟨b, o + j, none⟩) hlt hs]; exact h j v hv

set_option maxRecDepth 100000 in
set_option maxHeartbeats 2000000 in
theorem replay_any (w : World) (a : Option Addr) (N c : Nat) (q : Int) (pl : Nat → Nat) (pg : Nat → Nat → Int × Int) (HV : Hid (ProgsAt w.heap.size w (.slice a N c) N pl pg)) (HI : Hid (InB N pl q)) :
    Calls Yapd.prog 20 #[.slice a N c, .int .i64 q] w (RepPost PickOk w N q pl pg) := by
  obtain ⟨hN, hq0, hq1, hpl⟩ := HI.out
  have HPL : Hid (∀ i, i < N → pl i ≤ 32) := hpl
  clear hpl
  go_enter Yapd.func20, Yapd.ntmps20
  go_wp2_with fail
  have BX0 : Boxed w.heap.size 4 (w.alloc (.cells #[.int .i64 0, .bool false, .slice none 0 0, .slice none 0 0] 32)) := Boxed.new w _ 32
  have C0 : Chg No w (w.alloc (.cells #[.int .i64 0, .bool false, .slice none 0 0, .slice none 0 0] 32)) := (Chg.refl _ _).alloc _
  generalize w.alloc (.cells #[.int .i64 0, .bool false, .slice none 0 0, .slice none 0 0] 32) = W at *
  have HBX0 : Hid (Boxed w.heap.size 4 W) := BX0
  have HC0 : Hid (Chg No w W) := C0
  clear BX0 C0
  have below0 : Hid (∀ w', Chg No w w' → Below w.heap.size w w') := fun w' h => h.below (B := w.heap.size) (Nat.le_refl _) (fun _ h => h.elim)
  refine (boot_any _ N hN).mono ?_
  rintro e w1 ⟨L, rfl, HK1, hL1, HC1⟩
  have hl0 := HBX0.out.lt
  have hrbL : Hid (¬ L.mem w.heap.size) := fun h => by have h1 := hL1 _ h; omega
  have hL0 : Hid (∀ b, L.mem b → w.heap.size ≤ b) := fun b hb => Nat.le_trans HC0.out.size (hL1 b hb)
  have HBX : Hid (Boxed w.heap.size 4 w1) := HBX0.out.chg HC1 (fun h => h)
  have HCW : Hid (Chg No w w1) := HC0.out.trans HC1
  have HKB : Hid (KAt w1 L (bootK N)) := HK1
  clear HK1 hL1 HC1 HBX0 HC0 hl0
  go_wp2_with fail
  refine (check_any _ L _ HKB (Inv.boot N hN)).mono ?_
  rintro e w2 ⟨rfl, hc⟩
  have HKB2 : Hid (KAt w2 L (bootK N)) := HKB.out.chg hc (fun _ _ h => h)
  have HBX2 : Hid (Boxed w.heap.size 4 w2) := HBX.out.chg hc (fun h => h)
  have HCW2 : Hid (Chg No w w2) := HCW.out.trans hc
  clear hc HKB HBX HCW
  go_wp2_with fail
  have HKB3 : Hid (KAt (w2.alloc (.cells #[.int .i64 (N : Int), .bool true, .slice none 0 0, .slice none 0 0] 32)) L (bootK N)) := KAt.alloc HKB2.out _
  have BH0 : Boxed w2.heap.size 4 (w2.alloc (.cells #[.int .i64 (N : Int), .bool true, .slice none 0 0, .slice none 0 0] 32)) := Boxed.new w2 _ 32
  have RG0 : (w2.alloc (.cells #[.int .i64 (N : Int), .bool true, .slice none 0 0, .slice none 0 0] 32)).rangeAt w2.heap.size 0 [.int .i64 (N : Int), .bool true, .slice none 0 0, .slice none 0 0] := fun j v hv => by
    rw [cell_of (heap_alloc_new' _ _), Nat.zero_add]
    simpa using hv
  have C3 : Chg No w2 (w2.alloc (.cells #[.int .i64 (N : Int), .bool true, .slice none 0 0, .slice none 0 0] 32)) := (Chg.refl _ _).alloc _
  generalize w2.alloc (.cells #[.int .i64 (N : Int), .bool true, .slice none 0 0, .slice none 0 0] 32) = W3 at *
  have HRB3 : Hid (Boxed w.heap.size 4 W3) := HBX2.out.chg C3 (fun h => h)
  have HCW3 : Hid (Chg No w W3) := HCW2.out.trans C3
  have hwl := HBX2.out.lt
  have HNE : Hid (w.heap.size < w2.heap.size ∧ ¬ L.mem w2.heap.size) := ⟨hwl, fun h => by have := HKB2.out.lt h; omega⟩
  have HBH3 : Hid (Boxed w2.heap.size 4 W3) := BH0
  have HRG3 : Hid (W3.rangeAt w2.heap.size 0 [.int .i64 (N : Int), .bool true, .slice none 0 0, .slice none 0 0]) := RG0
  have HST3 : Hid (Start w.heap.size L (fun b => L.mem b ∨ b = w.heap.size ∨ b = w2.heap.size) (bootK N) N (.slice none 0 0) [] (fun _ => []) W3 (.slice none 0 0)) := by
    refine ⟨HKB3.out, ⟨⟨?_, .inl ⟨rfl, rfl⟩⟩, fun i m h => ?_, fun g h => ?_⟩, .inl rfl, fun b h => ?_, HCW3.out.size, fun b h => .inl h, fun b h => ?_⟩
    · rfl
    · simp at h
    · simp [Value.ownBlock] at h
    · obtain ⟨al, ac, h⟩ := h; simp at h
    · rcases h with h | rfl | rfl
      · exact HKB3.out.lt h
      · exact HRB3.out.lt
      · exact BH0.lt
  clear BH0 RG0 C3 HBX2 HCW2 HKB2 HKB3 hwl
  go_loopw [7] (fun i wr => ∃ t : Nat, ∃ ps : List Nat, ∃ mv V : Value, ∃ cf : Nat → List Value, i = .int .i64 t ∧ Hid (ps.length = t) ∧ (t : Int) ≤ q ∧ Hid (Start w.heap.size L (fun b => L.mem b ∨ b = w.heap.size ∨ b = w2.heap.size) (runK pl pg (bootK N) ps) N mv (momK pl pg (bootK N) ps) cf wr V) ∧ Hid (Boxed w.heap.size 4 wr) ∧ Hid (Boxed w2.heap.size 4 wr) ∧
    Hid (wr.rangeAt w2.heap.size 0 [.int .i64 (N : Int), .bool true, mv, V]) ∧ Hid (Chg No w wr) ∧ Hid (PicksOk PickOk pl pg (bootK N) ps)) (fun i _ => (q - intOf i).toNat)
  case atStart => exact ⟨0, [], _, _, _, rfl, rfl, by omega, HST3, HRB3, HBH3, HRG3, HCW3, picksOk_nil _ _ _ _⟩
  case round =>
    clear HST3 HRB3 HBH3 HRG3 HCW3
    obtain ⟨t, ps, mv, V, cf, rfl, Hlen, htq, HST, HRB, HBH, HRG, HCW, HP⟩ := hrel
    have hkn : (runK pl pg (bootK N) ps).n = N := runK_n pl pg ps (bootK N)
    have hinv : Inv (runK pl pg (bootK N) ps) := run_inv pickOk_picks ps (bootK N) (Inv.boot N hN) HPL.out HP.out
    have HIV : Hid (Inv (runK pl pg (bootK N) ps)) := hinv
    have HKN : Hid ((runK pl pg (bootK N) ps).n = N) := hkn
    have HML : Hid ((momK pl pg (bootK N) ps).length = t) := by unfold Hid; rw [momK_length]; exact Hlen.out
    clear hinv hkn
    obtain ⟨mq, nq, rfl⟩ : ∃ mq nq, mv = .slice mq t nq := by rw [← HML.out]; exact HST.out.hist.shape
    obtain ⟨qa, qm, qc, rfl⟩ := HST.out.arena.slice
    by_cases hlt : (t : Int) < q
    · go_wp2_with fail
      refine (pick_any _ L _ HST.out.kat HIV.out.last.1 HIV.out.last.2).mono ?_
      rintro e w' ⟨⟨r, rfl, hpk⟩, hw⟩
      subst w'
      have HPK : Hid (PickOk (runK pl pg (bootK N) ps) r) := hpk
      clear hpk
      by_cases hr : r < 0
      · have hr1 : r = -1 := by
          rcases HPK.out with ⟨h, _⟩ | ⟨x, h, _⟩ <;> omega
        subst hr1
        have RB := HRB.out.chg (S := No) (Chg.refl _ _) (fun h => h)
        obtain ⟨g0, g1, g2, g3⟩ := rangeAt4 HRG.out
        have gl := HBH.out.lt
        have rl := HRB.out.lt
        have r0 := HRB.out.cell (i := 0) (by omega)
        have r1 := HRB.out.cell (i := 1) (by omega)
        have r2 := HRB.out.cell (i := 2) (by omega)
        have r3 := HRB.out.cell (i := 3) (by omega)
        have s0 := HRB.out.fz (i := 0)
        have s1 := HRB.out.fz (i := 1)
        have s2 := HRB.out.fz (i := 2)
        have s3 := HRB.out.fz (i := 3)
        clear RB
        go_wp2_with fail
        have hrg : (wr.setCells w.heap.size 0 [.int .i64 (N : Int), .bool true, .slice mq t nq, .slice qa qm qc]).rangeAt w.heap.size 0 [.int .i64 (N : Int), .bool true, .slice mq t nq, .slice qa qm qc] :=
          World.rangeAt_setCells_same _ _ _ _ HRB.out.there
        refine bodyPost_ret (results_box Yapd.results20 rfl hrg Yapd.underlying32 rfl (by kernel_rfl)) rfl ?_
        have C7 : Chg (fun b => b = w.heap.size) wr (wr.setCells w.heap.size 0 [.int .i64 (N : Int), .bool true, .slice mq t nq, .slice qa qm qc]) := Chg.setCells (S := fun b => b = w.heap.size) (.inl rfl) _ _ _ (Chg.refl _ _)
        exact ⟨ps, _, _, cf, _, rfl, HST.out.hist.chg C7 (fun b hb => .inr (.inl hb)), ⟨_, _, _, rfl⟩, HCW.out.over C7 (fun b hb => by omega), HP.out, .inr ⟨by rw [Hlen.out]; exact htq, HPK.out⟩⟩

      · obtain ⟨p, rfl⟩ := Int.eq_ofNat_of_zero_le (show 0 ≤ r by omega)
        have hpp := pickOk_picks _ p HPK.out
        rw [HKN.out] at hpp
        obtain ⟨hp1, hp2⟩ := hpp
        have HP2 : Hid ((runK pl pg (bootK N) ps).st p = 0) := hp2
        clear hp2
        have hB1 : Below w.heap.size w wr := below0.out _ HCW.out
        obtain ⟨a', c', he, hv⟩ := HV.out.below hB1
        obtain ⟨rfl, -, rfl⟩ : a = a' ∧ N = N ∧ c = c' := by simpa using he
        obtain ⟨pb, po, pv, rfl, hpb, hpc⟩ := hv (by omega)
        obtain ⟨c0, hprog⟩ := hpc p hp1
        have HPR : Hid (ProgAt w.heap.size wr (pv p) (pl p) (pg p)) := hprog
        clear hpc hprog he hv hB1
        go_wp2_with fail
        have DC : Hid (wr.drew.cell? ⟨pb, po + p, none⟩ = some (pv p) ∧ wr.drew.rangeAt w2.heap.size 0 [.int .i64 (N : Int), .bool true, .slice mq t nq, .slice qa qm qc]) := ⟨c0, HRG.out⟩
        refine wp_region_S (fun W => W.cell? ⟨pb, po + p, none⟩ = some (pv p) ∧ W.rangeAt w2.heap.size 0 [.int .i64 (N : Int), .bool true, .slice mq t nq, .slice qa qm qc]) [0, 1, 2, 3, 4, 5, 6] (by kernel_rfl) ?_
        refine wpAnyS_take 0 (.agg #[.int .i64 (N : Int), .bool true, .slice mq t nq, .slice qa qm qc]) rfl (by kernel_rfl) (by kernel_rfl) (by kernel_rfl) (by kernel_rfl) (fun _ _ _ h => h) (by rfl) DC.out (fun _ h => run_load32 rfl rfl h.2) ?_
        simp only [Act.put, List.setIfInBounds_toArray, List.set_cons_zero, List.set_cons_succ]
        refine wpAnyS_take 1 (.pointer (some ⟨L.kb, 0, none⟩)) rfl (by kernel_rfl) (by kernel_rfl) (by kernel_rfl) (by kernel_rfl) (fun _ _ _ h => h) (by rfl) DC.out (fun _ _ => rfl) ?_
        simp only [Act.put, List.setIfInBounds_toArray, List.set_cons_zero, List.set_cons_succ]
        refine wpAnyS_take 2 (.int .i64 (p : Int)) rfl (by kernel_rfl) (by kernel_rfl) (by kernel_rfl) (by kernel_rfl) (fun _ _ _ h => h) (by rfl) DC.out (fun _ _ => rfl) ?_
        simp only [Act.put, List.setIfInBounds_toArray, List.set_cons_zero, List.set_cons_succ]
        refine wpAnyS_take 3 (.slice (some ⟨pb, po, none⟩) N c) rfl (by kernel_rfl) (by kernel_rfl) (by kernel_rfl) (by kernel_rfl) (fun _ _ _ h => h) (by rfl) DC.out (fun _ _ => rfl) ?_
        simp only [Act.put, List.setIfInBounds_toArray, List.set_cons_zero, List.set_cons_succ]
        refine wpAnyS_take 4 (.int .i64 (p : Int)) rfl (by kernel_rfl) (by kernel_rfl) (by kernel_rfl) (by kernel_rfl) (fun _ _ _ h => h) (by rfl) DC.out (fun _ _ => rfl) ?_
        simp only [Act.put, List.setIfInBounds_toArray, List.set_cons_zero, List.set_cons_succ]
        refine wpAnyS_take 5 (.pointer (some ⟨pb, po + p, none⟩)) rfl (by kernel_rfl) (by kernel_rfl) (by kernel_rfl) (by kernel_rfl) (fun _ _ _ h => h) (by rfl) DC.out (fun _ _ => run_index22 rfl rfl rfl hp1) ?_
        simp only [Act.put, List.setIfInBounds_toArray, List.set_cons_zero, List.set_cons_succ]
        refine wpAnyS_take 6 (pv p) rfl (by kernel_rfl) (by kernel_rfl) (by kernel_rfl) (by kernel_rfl) (fun _ _ _ h => h) (by rfl) DC.out (fun _ h => run_load52 rfl rfl h.1) ?_
        simp only [Act.put, List.setIfInBounds_toArray, List.set_cons_zero, List.set_cons_succ]
        refine wpAnyS_one 7 rfl (by kernel_rfl) (by rfl) ?_
        have HSD : Hid (Start w.heap.size L (fun b => L.mem b ∨ b = w.heap.size ∨ b = w2.heap.size) (runK pl pg (bootK N) ps) N (.slice mq t nq) (momK pl pg (bootK N) ps) cf wr.drew (.slice qa qm qc)) :=
          HST.out.turn (S := No) ((Chg.refl _ _).drew) (fun _ h => h.elim) HST.out.kat.drew
        refine wp_callF 43 Yapd.func43 rfl (by kernel_rfl) [.agg #[.int .i64 (N : Int), .bool true, .slice mq t nq, .slice qa qm qc], .pointer (some ⟨L.kb, 0, none⟩), .int .i64 (p : Int), pv p] rfl rfl
          (fun v w' => AdvPost w.heap.size L (fun b => L.mem b ∨ b = w.heap.size ∨ b = w2.heap.size) (quantumK (runK pl pg (bootK N) ps) p (pl p) (pg p)) N (momK pl pg (bootK N) ps) (moOf (runK pl pg (bootK N) ps) p (pl p) (pg p)) wr.drew (.returned v) w')
          ((advance_any wr.drew w.heap.size L _ _ N _ _ _ cf HSD p (by rw [HKN.out]; exact hp1) (pv p) (pl p) (pg p) HPR (HPL.out p hp1) hL0 HIV HP2 t (by unfold Hid; rw [runK_trace_len, Hlen.out]; simp [bootK]) (by omega) t HML (by omega) HKN).mono fun e w' h => by
            obtain ⟨mv', V', cf', rfl, h1, h2⟩ := h
            exact ⟨_, rfl, mv', V', cf', rfl, h1, h2⟩) ?_
        rintro v w3 ⟨mv', V', cf', hv, HS3, HC3⟩
        obtain rfl : v = .agg #[.int .i64 (N : Int), .bool true, mv', V'] := by simpa using hv
        clear hv
        obtain ⟨mr, nr, rfl⟩ : ∃ mr nr, mv' = .slice mr (t + 1) nr := by have := HS3.hist.shape; rw [List.length_append, HML.out] at this; exact this
        obtain ⟨ra, rm, rc, rfl⟩ := HS3.arena.slice
        have nX : ∀ b, (b = w.heap.size ∨ b = w2.heap.size) → ¬ (L.mem b ∨ w.heap.size ≤ b ∧ ¬ (L.mem b ∨ b = w.heap.size ∨ b = w2.heap.size)) := fun b hb h => by
          rcases h with h | h
          · rcases hb with rfl | rfl
            · exact hrbL.out h
            · exact HNE.out.2 h
          · exact h.2 (.inr hb)
        have HRB4 : Hid (Boxed w.heap.size 4 w3) := HRB.out.drew.chg HC3 (nX _ (.inl rfl))
        have HBH4 : Hid (Boxed w2.heap.size 4 w3) := HBH.out.drew.chg HC3 (nX _ (.inr rfl))
        have HCW4 : Hid (Chg No w w3) := (HCW.out.drew).over HC3 (fun b h => by
          rcases h with h | h
          · exact hL0.out b h
          · exact h.1)
        have HS4 : Hid (Start w.heap.size L (fun b => L.mem b ∨ b = w.heap.size ∨ b = w2.heap.size) (runK pl pg (bootK N) (ps ++ [p])) N (.slice mr (t + 1) nr) (momK pl pg (bootK N) (ps ++ [p])) cf' w3 (.slice ra rm rc)) := by
          unfold Hid; rw [runK_snoc, momK_snoc]; exact HS3
        have hpw : pb < wr.heap.size := cell_lt c0
        have c3 : w3.cell? ⟨pb, po + p, none⟩ = some (pv p) := by
          rw [HC3.cell (p := ⟨pb, po + p, none⟩) hpw (fun h => by
            rcases h with h | h
            · have := hL0.out _ h; simp at this; omega
            · have := h.1; simp at this; omega)]; exact c0
        have g3 : w3.rangeAt w2.heap.size 0 [.int .i64 (N : Int), .bool true, .slice mq t nq, .slice qa qm qc] := rangeAt_chg DC.out.2 HC3 (nX _ (.inr rfl)) HBH.out.lt
        clear HS3 HC3 nX hpw
        refine ⟨.inr ⟨c3, g3⟩, ?_⟩
        clear c3 g3
        simp only [Act.put, List.setIfInBounds_toArray, List.set_cons_zero, List.set_cons_succ]
        refine wpAnyS_one 8 rfl (by kernel_rfl) (by rfl) ?_
        refine wp_store_mid 32 _ _ rfl w2.heap.size 0 #[.int .i64 (N : Int), .bool true, .slice mr (t + 1) nr, .slice ra rm rc] rfl rfl HBH4.out.there (by kernel_rfl) (by simp [Value.oneCell']) ?_
        refine ⟨.inl (by kernel_rfl), wpAnyS_done (by kernel_rfl) ?_⟩
        simp only [Act.put, List.setIfInBounds_toArray, List.set_cons_zero, List.set_cons_succ]
        have C5 : Chg (fun b => b = w2.heap.size) w3 (w3.setCells w2.heap.size 0 [.int .i64 (N : Int), .bool true, .slice mr (t + 1) nr, .slice ra rm rc]) := Chg.setCells (S := fun b => b = w2.heap.size) (.inl rfl) _ _ _ (Chg.refl _ _)
        have RG5 : (w3.setCells w2.heap.size 0 [.int .i64 (N : Int), .bool true, .slice mr (t + 1) nr, .slice ra rm rc]).rangeAt w2.heap.size 0 [.int .i64 (N : Int), .bool true, .slice mr (t + 1) nr, .slice ra rm rc] := World.rangeAt_setCells_same _ _ _ _ HBH4.out.there
        have BH5 := HBH4.out.sets (b := w2.heap.size) [.int .i64 (N : Int), .bool true, .slice mr (t + 1) nr, .slice ra rm rc] 0
        have RB5 := HRB4.out.sets (b := w2.heap.size) [.int .i64 (N : Int), .bool true, .slice mr (t + 1) nr, .slice ra rm rc] 0
        generalize w3.setCells w2.heap.size 0 [.int .i64 (N : Int), .bool true, .slice mr (t + 1) nr, .slice ra rm rc] = W5 at *
        have HS5 : Hid (Start w.heap.size L (fun b => L.mem b ∨ b = w.heap.size ∨ b = w2.heap.size) (runK pl pg (bootK N) (ps ++ [p])) N (.slice mr (t + 1) nr) (momK pl pg (bootK N) (ps ++ [p])) cf' W5 (.slice ra rm rc)) :=
          HS4.out.turn C5 (fun b h => .inr (.inr h)) (HS4.out.kat.chg C5 (fun b hm hb => HNE.out.2 (hb ▸ hm)))
        have HC5 : Hid (Chg No w W5) := HCW4.out.over C5 (fun b h => by have := HNE.out.1; omega)
        have HRG5 : Hid (W5.rangeAt w2.heap.size 0 [.int .i64 (N : Int), .bool true, .slice mr (t + 1) nr, .slice ra rm rc]) := RG5
        have HBH5 : Hid (Boxed w2.heap.size 4 W5) := BH5
        have HRB5 : Hid (Boxed w.heap.size 4 W5) := RB5
        clear C5 RG5 BH5 RB5 HS4 HCW4 HBH4 HRB4
        go_wp2_with fail
        go_roundw
        case rel => exact ⟨t + 1, ps ++ [p], _, _, cf', by go_num, by unfold Hid; simp [Hlen.out], by omega, HS5, HRB5, HBH5, HRG5, HC5, picksOk_snoc HP.out HPK.out⟩
        case measure => simp [intOf]; omega
    · have hqt : (t : Int) = q := by omega
      have RB := HRB.out.chg (S := No) (Chg.refl _ _) (fun h => h)
      obtain ⟨g0, g1, g2, g3⟩ := rangeAt4 HRG.out
      have gl := HBH.out.lt
      have rl := HRB.out.lt
      have r0 := HRB.out.cell (i := 0) (by omega)
      have r1 := HRB.out.cell (i := 1) (by omega)
      have r2 := HRB.out.cell (i := 2) (by omega)
      have r3 := HRB.out.cell (i := 3) (by omega)
      have s0 := HRB.out.fz (i := 0)
      have s1 := HRB.out.fz (i := 1)
      have s2 := HRB.out.fz (i := 2)
      have s3 := HRB.out.fz (i := 3)
      clear RB
      go_wp2_with fail
      have hrg : (wr.setCells w.heap.size 0 [.int .i64 (N : Int), .bool true, .slice mq t nq, .slice qa qm qc]).rangeAt w.heap.size 0 [.int .i64 (N : Int), .bool true, .slice mq t nq, .slice qa qm qc] :=
        World.rangeAt_setCells_same _ _ _ _ HRB.out.there
      refine bodyPost_ret (results_box Yapd.results20 rfl hrg Yapd.underlying32 rfl (by kernel_rfl)) rfl ?_
      have C7 : Chg (fun b => b = w.heap.size) wr (wr.setCells w.heap.size 0 [.int .i64 (N : Int), .bool true, .slice mq t nq, .slice qa qm qc]) := Chg.setCells (S := fun b => b = w.heap.size) (.inl rfl) _ _ _ (Chg.refl _ _)
      exact ⟨ps, _, _, cf, _, rfl, HST.out.hist.chg C7 (fun b hb => .inr (.inl hb)), ⟨_, _, _, rfl⟩, HCW.out.over C7 (fun b hb => by omega), HP.out, .inl (by rw [Hlen.out]; exact hqt)⟩

end Go.Proofs.Ygdapg

