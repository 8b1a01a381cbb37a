/-
  observe, WALKED.
-/
import Derived.Test.YgdapgH5a
import Derived.Deep.DeepCutAuto
set_option linter.unusedSimpArgs false
set_option linter.unusedVariables false
namespace Go.Proofs.Ygdapg
open Go.RowKit

set_option maxRecDepth 100000 in
set_option maxHeartbeats 4000000 in
theorem observe_any (w : World) (B : Nat) (L : Lay) (X : Nat → Prop) (k : KS) (N : Nat) (mv V : Value) (ms : List Mo) (cf : Nat → List Value) (H : Hid (Start B L X k N mv ms cf w V)) (HI : Hid (Inv k)) (p a : Int) (t : Nat) (Ht : Hid (k.trace.length = t + 1)) (ht : t ≤ 255) (ev : Int) (Hev : Hid (k.trace.getD t 0 = ev))
    (he0 : 0 ≤ ev) (he1 : ev ≤ 1000) (M : Nat) (HM : Hid (ms.length = M)) (hM : M ≤ 256) (hN : N ≤ 32) (HNK : Hid (k.n = N)) :
    Calls Yapd.prog 62 #[.agg #[.int .i64 (N : Int), .bool true, mv, V], .pointer (some ⟨L.kb, 0, none⟩), .int .i64 p, .int .i64 a] w (ObsPost B L X k N ms ⟨p, ev % 16, a, k.st, k.wo, k.su, k.acc, k.pipe, k.pipe2⟩ w) := by
  have f9 := H.out.kat.f9
  rw [Ht.out] at f9
  have c9 : w.cell? ⟨L.t, t, none⟩ = some (.int .i64 ev) := by
    have := H.out.kat.t.cell (i := t) (by rw [Ht.out]; omega)
    rw [Hev.out] at this; exact this
  have hk1 := cell_lt f9
  have hk2 := cell_lt c9
  go_enter Yapd.func62, Yapd.ntmps62
  go_wp2_with fail
  refine (check_any _ L k (KAt.alloc (KAt.alloc H.out.kat _) _) HI).mono ?_
  rintro e w' ⟨rfl, hc⟩
  obtain ⟨mq, nq, rfl⟩ : ∃ mq nq, mv = .slice mq M nq := by rw [← HM.out]; exact H.out.hist.shape
  have hs : w.heap.size + 2 ≤ w'.heap.size := by have := hc.size; simpa using this
  have hb : w'.heap[w.heap.size]? = some (.cells #[.int .i64 (N : Int), .bool true, .slice mq M nq, V] 32 (0, 0)) := by
    rw [hc.block _ (by simp; omega) (fun h => h)]; exact al2_old _ _ _
  have rb : w'.heap[w.heap.size + 1]? = some (.cells #[.int .i64 0, .bool false, .slice none 0 0, .slice none 0 0] 32 (0, 0)) := by
    rw [hc.block _ (by simp) (fun h => h)]; exact al2_new _ _ _
  have hb2 : w'.cell? ⟨w.heap.size, 2, none⟩ = some (.slice mq M nq) := by rw [cell_of hb]; rfl
  have HC : Hid (Chg No w w') := (((Chg.refl _ _).alloc _).alloc _).trans hc
  clear hc
  have hs0 : w.heap.size < w'.heap.size := by omega
  have hs1 : w.heap.size + 1 < w'.heap.size := by omega
  go_upto_if 41 with fail
  go_cut [12] (fun s12 wc => s12 = .pointer (some ⟨w'.heap.size + 1, 0, none⟩) ∧ Chg No w wc ∧ ∃ lv ln lg, Obs B L X k N w.heap.size (w.heap.size + 1) w'.heap.size (w'.heap.size + 1) (.slice mq M nq) ms cf lv ln lg p (ev % 16) a 0 wc V (fun _ => .slice none 0 0) ∧ ∀ i, i < 6 → (∃ a m c, lv i = .slice a m c) ∧ ln i ≤ 256)
  case first =>
    by_cases h0 : M = 0
    · subst h0
      go_wp2_with fail
      go_meet
      refine ⟨rfl, (HC.out.alloc _).alloc _, fun _ => .slice none 0 0, fun _ => 0, fun _ _ => 0, ?_, fun _ _ => ⟨⟨_, _, _, rfl⟩, by omega⟩⟩
      refine Obs.init H.out ((HC.out.alloc _).alloc _) (Nat.le_refl _) (by omega) (by omega) (by omega) ?_ ?_ ?_ ?_ (fun _ _ => .inl ⟨rfl, _, _, rfl⟩)
      · rw [al2_lt _ _ _ hs0]; exact hb
      · exact al2_old _ _ _
      · intro i hi
        rw [cell_of (al2_new _ _ _)]
        have h : i = 0 ∨ i = 1 ∨ i = 2 ∨ i = 3 ∨ i = 4 ∨ i = 5 := by omega
        rcases h with rfl | rfl | rfl | rfl | rfl | rfl <;> rfl
      · exact ⟨_, _, by rw [al2_lt _ _ _ hs1]; exact rb, rfl⟩
    · have h1 : 0 < M := by omega
      obtain ⟨i, rfl⟩ : ∃ i, M = i + 1 := ⟨M - 1, by omega⟩
      obtain ⟨m, hm⟩ : ∃ m, ms[i]? = some m := ⟨ms[i]'(by rw [HM.out]; omega), by simp⟩
      obtain ⟨g, cap, e1, hrg⟩ := H.out.hist.cells hm
      obtain rfl : mq = some ⟨g, 0, none⟩ := by simp only [Value.slice.injEq] at e1; exact e1.1
      clear e1
      obtain ⟨lv, ln, lg, hcs, hq, hsh⟩ := (H.out.hist.mo i m hm).six hN
      have HQ : Hid (∀ q, q < 6 → SlQ w V (XM X (.slice (some ⟨g, 0, none⟩) (i + 1) nq)) (lv q) (ln q) (lg q)) := hq
      have HS : Hid (∀ i, i < 6 → (∃ a m c, lv i = .slice a m c) ∧ ln i ≤ 256) := hsh
      clear hq hsh
      obtain ⟨⟨a0, m0, c0, l0⟩, -⟩ := HS.out 0 (by omega)
      obtain ⟨⟨a1, m1, c1, l1⟩, -⟩ := HS.out 1 (by omega)
      obtain ⟨⟨a2, m2, c2, l2⟩, -⟩ := HS.out 2 (by omega)
      obtain ⟨⟨a3, m3, c3, l3⟩, -⟩ := HS.out 3 (by omega)
      obtain ⟨⟨a4, m4, c4, l4⟩, -⟩ := HS.out 4 (by omega)
      obtain ⟨⟨a5, m5, c5, l5⟩, -⟩ := HS.out 5 (by omega)
      rw [hcs, l0, l1, l2, l3, l4, l5] at hrg
      have HL : Hid (∀ i, i < 6 → lv i = (fun | 0 => .slice a0 m0 c0 | 1 => .slice a1 m1 c1 | 2 => .slice a2 m2 c2 | 3 => .slice a3 m3 c3 | 4 => .slice a4 m4 c4 | _ => .slice a5 m5 c5 : Nat → Value) i) := fun i hi => by
        have h : i = 0 ∨ i = 1 ∨ i = 2 ∨ i = 3 ∨ i = 4 ∨ i = 5 := by omega
        rcases h with rfl | rfl | rfl | rfl | rfl | rfl
        · exact l0
        · exact l1
        · exact l2
        · exact l3
        · exact l4
        · exact l5
      clear l0 l1 l2 l3 l4 l5 hcs
      have hg : g < w'.heap.size := Nat.lt_of_lt_of_le (cell_lt (hrg 0 _ rfl)) HC.out.size
      have cell : ∀ j v, ([.int .i64 m.p, .int .i64 m.kd, .int .i64 m.a, .bool true, .slice a0 m0 c0, .slice a1 m1 c1, .slice a2 m2 c2, .slice a3 m3 c3, .slice a4 m4 c4, .slice a5 m5 c5] : List Value)[j]? = some v → w'.cell? ⟨g, i * 10 + j, none⟩ = some v := fun j v hv => by
        have e := hrg j v hv
        rw [HC.out.cell (p := ⟨g, i * 10 + j, none⟩) (cell_lt e) (fun h => h)]; exact e
      have d0 : w'.cell? ⟨g, i * 10, none⟩ = some (.int .i64 m.p) := cell 0 _ rfl
      have d1 : w'.cell? ⟨g, i * 10 + 1, none⟩ = some (.int .i64 m.kd) := cell 1 _ rfl
      have d2 : w'.cell? ⟨g, i * 10 + 2, none⟩ = some (.int .i64 m.a) := cell 2 _ rfl
      have d3 : w'.cell? ⟨g, i * 10 + 3, none⟩ = some (.bool true) := cell 3 _ rfl
      have d4 : w'.cell? ⟨g, i * 10 + 4, none⟩ = some (.slice a0 m0 c0) := cell 4 _ rfl
      have d5 : w'.cell? ⟨g, i * 10 + 5, none⟩ = some (.slice a1 m1 c1) := cell 5 _ rfl
      have d6 : w'.cell? ⟨g, i * 10 + 6, none⟩ = some (.slice a2 m2 c2) := cell 6 _ rfl
      have d7 : w'.cell? ⟨g, i * 10 + 7, none⟩ = some (.slice a3 m3 c3) := cell 7 _ rfl
      have d8 : w'.cell? ⟨g, i * 10 + 8, none⟩ = some (.slice a4 m4 c4) := cell 8 _ rfl
      have d9 : w'.cell? ⟨g, i * 10 + 9, none⟩ = some (.slice a5 m5 c5) := cell 9 _ rfl
      clear cell hrg
      go_wp2_with fail
      go_meet
      refine ⟨rfl, (HC.out.alloc _).alloc _, lv, ln, lg, ?_, HS.out⟩
      refine Obs.init H.out ((HC.out.alloc _).alloc _) (Nat.le_refl _) (by omega) (by omega) (by omega) ?_ ?_ ?_ ?_ HQ.out
      · rw [al2_lt _ _ _ hs0]; exact hb
      · exact al2_old _ _ _
      · intro i hi
        rw [cell_of (al2_new _ _ _), HL.out i hi]
        have h : i = 0 ∨ i = 1 ∨ i = 2 ∨ i = 3 ∨ i = 4 ∨ i = 5 := by omega
        rcases h with rfl | rfl | rfl | rfl | rfl | rfl <;> rfl
      · exact ⟨_, _, by rw [al2_lt _ _ _ hs1]; exact rb, rfl⟩
  case rest =>
    obtain ⟨rfl, hC, lv, ln, lg, hO, hS⟩ := hcut
    have O0 : Hid (Obs B L X k N w.heap.size (w.heap.size + 1) w'.heap.size (w'.heap.size + 1) (.slice mq M nq) ms cf lv ln lg p (ev % 16) a 0 wc V (fun _ => .slice none 0 0)) := hO
    have C0 : Hid (Chg (fun b => B ≤ b ∧ ¬ X b) w wc) := hC.mono (fun _ h => h.elim)
    have HS : Hid (∀ i, i < 6 → (∃ a m c, lv i = .slice a m c) ∧ ln i ≤ 256) := hS
    have bx : Boxes X w.heap.size (w.heap.size + 1) w'.heap.size (w'.heap.size + 1) := ⟨by omega, by omega, by omega, by omega, by omega, by omega, fun h => by have := H.out.xlt _ h; omega, fun h => by have := H.out.xlt _ h; omega, fun h => by have := H.out.xlt _ h; omega, fun h => by have := H.out.xlt _ h; omega⟩
    have BX : Hid (Boxes X w.heap.size (w.heap.size + 1) w'.heap.size (w'.heap.size + 1)) := bx
    clear hC hO hS bx f9 c9 hb rb hb2
    go_wp2_with fail
    have Z : wc.cell? ⟨(w'.heap.size + 1), 4, none⟩ = some (lv 0) ∧ wc.cell? ⟨L.kb, 0, none⟩ = some (.slice (some ⟨L.s, 0, none⟩) k.n k.n) := ⟨O0.out.lbox 0 (by omega), O0.out.kat.f0⟩
    refine wp_region_S (fun W => W.cell? ⟨(w'.heap.size + 1), 4, none⟩ = some (lv 0) ∧ W.cell? ⟨L.kb, 0, none⟩ = some (.slice (some ⟨L.s, 0, none⟩) k.n k.n)) [2, 3, 4, 5, 6, 7, 11] (by kernel_rfl) ?_
    have SS : wc.drew.cell? ⟨(w'.heap.size + 1), 4, none⟩ = some (lv 0) ∧ wc.drew.cell? ⟨L.kb, 0, none⟩ = some (.slice (some ⟨L.s, 0, none⟩) k.n k.n) := Z
    refine wpAnyS_take 2 (Value.pointer (some ⟨(w'.heap.size + 1), 4, none⟩)) rfl (by kernel_rfl) (by kernel_rfl) (by kernel_rfl) (by kernel_rfl) (fun _ _ _ h => h) (by rfl) SS (fun _ _ => by kernel_rfl) ?_
    simp only [Act.put, List.setIfInBounds_toArray, List.set_cons_zero, List.set_cons_succ]
    refine wpAnyS_take 3 (lv 0) rfl (by kernel_rfl) (by kernel_rfl) (by kernel_rfl) (by kernel_rfl) (fun _ _ _ h => h) (by rfl) SS (fun _ h => run_load23 rfl rfl (h.1)) ?_
    simp only [Act.put, List.setIfInBounds_toArray, List.set_cons_zero, List.set_cons_succ]
    refine wpAnyS_take 4 (Value.pointer (some ⟨L.kb, 0, none⟩)) rfl (by kernel_rfl) (by kernel_rfl) (by kernel_rfl) (by kernel_rfl) (fun _ _ _ h => h) (by rfl) SS (fun _ _ => rfl) ?_
    simp only [Act.put, List.setIfInBounds_toArray, List.set_cons_zero, List.set_cons_succ]
    refine wpAnyS_take 5 (Value.pointer (some ⟨L.kb, 0, none⟩)) rfl (by kernel_rfl) (by kernel_rfl) (by kernel_rfl) (by kernel_rfl) (fun _ _ _ h => h) (by rfl) SS (fun _ _ => rfl) ?_
    simp only [Act.put, List.setIfInBounds_toArray, List.set_cons_zero, List.set_cons_succ]
    refine wpAnyS_take 6 (Value.pointer (some ⟨L.kb, 0, none⟩)) rfl (by kernel_rfl) (by kernel_rfl) (by kernel_rfl) (by kernel_rfl) (fun _ _ _ h => h) (by rfl) SS (fun _ _ => by kernel_rfl) ?_
    simp only [Act.put, List.setIfInBounds_toArray, List.set_cons_zero, List.set_cons_succ]
    refine wpAnyS_take 7 (Value.slice (some ⟨L.s, 0, none⟩) k.n k.n) rfl (by kernel_rfl) (by kernel_rfl) (by kernel_rfl) (by kernel_rfl) (fun _ _ _ h => h) (by rfl) SS (fun _ h => run_load23 rfl rfl (h.2)) ?_
    simp only [Act.put, List.setIfInBounds_toArray, List.set_cons_zero, List.set_cons_succ]
    refine wpAnyS_one 0 rfl (by kernel_rfl) (by rfl) ?_
    refine wp_val (.pointer (some ⟨w.heap.size, 3, none⟩)) (w' := wc.drew) (by kernel_rfl) ⟨.inr SS, ?_⟩
    simp only [Act.put, List.setIfInBounds_toArray, List.set_cons_zero, List.set_cons_succ]
    refine wpAnyS_one 1 rfl (by kernel_rfl) (by rfl) ?_
    refine wp_val V (w' := wc.drew) (run_load23 rfl rfl O0.out.v3) ⟨.inr SS, ?_⟩
    simp only [Act.put, List.setIfInBounds_toArray, List.set_cons_zero, List.set_cons_succ]
    refine wpAnyS_one 8 rfl (by kernel_rfl) (by rfl) ?_
    refine wp_callF 77 Yapd.func77 rfl (by kernel_rfl) [V, lv 0, .slice (some ⟨L.s, 0, none⟩) k.n k.n] rfl rfl (fun v w' => KeepPost wc.drew V (lv 0) (fN k 0) (fF k 0) (.returned v) w')
      ((O0.out.keep (by omega) (HS.out 0 (by omega)).2 _).mono fun e w' h => by
        obtain ⟨V', out, rfl, h⟩ := h
        exact ⟨_, rfl, V', out, rfl, h⟩) ?_
    rintro v X0 ⟨V1, o0, e, hk, hs', ho⟩
    obtain rfl : v = .tuple #[V1, o0] := by simpa using e
    clear e SS
    have SS : X0.cell? ⟨(w'.heap.size + 1), 4, none⟩ = some (lv 0) ∧ X0.cell? ⟨L.kb, 0, none⟩ = some (.slice (some ⟨L.s, 0, none⟩) k.n k.n) := ⟨O0.out.keptCell hk (.inr (.inr (.inr (.inr rfl)))) Z.1, O0.out.keptCell hk (.inl (H.out.sub _ (by simp [Lay.mem, Lay.list]))) Z.2⟩
    refine ⟨.inr SS, ?_⟩
    simp only [Act.put, List.setIfInBounds_toArray, List.set_cons_zero, List.set_cons_succ]
    refine wpAnyS_one 9 rfl (by kernel_rfl) (by rfl) ?_
    refine wp_val (.tuple #[V1, o0]) (w' := X0) (by kernel_rfl) ⟨.inr SS, ?_⟩
    simp only [Act.put, List.setIfInBounds_toArray, List.set_cons_zero, List.set_cons_succ]
    refine wpAnyS_take 11 o0 rfl (by kernel_rfl) (by kernel_rfl) (by kernel_rfl) (by kernel_rfl) (fun _ _ _ h => h) (by rfl) SS (fun _ _ => by kernel_rfl) ?_
    simp only [Act.put, List.setIfInBounds_toArray, List.set_cons_zero, List.set_cons_succ]
    refine wpAnyS_one 10 rfl (by kernel_rfl) (by rfl) ?_
    refine wp_val V1 (w' := X0) (by kernel_rfl) ⟨.inr SS, ?_⟩
    simp only [Act.put, List.setIfInBounds_toArray, List.set_cons_zero, List.set_cons_succ]
    refine wpAnyS_one 12 rfl (by kernel_rfl) (by rfl) ?_
    refine wp_val (.pointer (some ⟨w.heap.size, 3, none⟩)) (w' := X0) (by kernel_rfl) ⟨.inr SS, ?_⟩
    simp only [Act.put, List.setIfInBounds_toArray, List.set_cons_zero, List.set_cons_succ]
    refine wpAnyS_one 13 rfl (by kernel_rfl) (by rfl) ?_
    have hX1 := O0.out.keptHeap hk (.inr (.inl rfl)) O0.out.hbox
    have hX2 := O0.out.keptHeap hk (.inr (.inr (.inr (.inl rfl)))) O0.out.mbox
    refine wp_store23 (v := V1) (u := V) rfl rfl rfl hk.arena.slice (by rw [cell_of hX1]; rfl) (frozen_of hX1) ?_
    have SS1 : (X0.setCell ⟨w.heap.size, 3, none⟩ V1).cell? ⟨(w'.heap.size + 1), 4, none⟩ = some (lv 0) ∧ (X0.setCell ⟨w.heap.size, 3, none⟩ V1).cell? ⟨L.kb, 0, none⟩ = some (.slice (some ⟨L.s, 0, none⟩) k.n k.n) := by
      constructor
      · rw [World.cell?_of_block (w := X0) (heap_set_ne (Ne.symm BX.out.hl))]; exact SS.1
      · rw [World.cell?_of_block (w := X0) (heap_set_ne (Nat.ne_of_lt hk1))]; exact SS.2
    refine ⟨.inr SS1, ?_⟩
    simp only [Act.put, List.setIfInBounds_toArray, List.set_cons_zero, List.set_cons_succ]
    refine wpAnyS_one 14 rfl (by kernel_rfl) (by rfl) ?_
    refine wp_val (.pointer (some ⟨w'.heap.size, 4, none⟩)) (w' := X0.setCell ⟨w.heap.size, 3, none⟩ V1) (by kernel_rfl) ⟨.inr SS1, ?_⟩
    simp only [Act.put, List.setIfInBounds_toArray, List.set_cons_zero, List.set_cons_succ]
    refine wpAnyS_one 15 rfl (by kernel_rfl) (by rfl) ?_
    have hX3 : (X0.setCell ⟨w.heap.size, 3, none⟩ V1).heap[w'.heap.size]? = _ := (heap_set_ne (Ne.symm BX.out.hm)).trans hX2
    refine wp_store23 (v := o0) (u := .slice none 0 0) rfl rfl rfl hs'.slice (by rw [cell_of hX3]; rfl) (frozen_of hX3) ?_
    refine ⟨.inl (by kernel_rfl), wpAnyS_done (by kernel_rfl) ?_⟩
    simp only [Act.put, List.setIfInBounds_toArray, List.set_cons_zero, List.set_cons_succ]
    have O1 : Hid (Obs B L X k N w.heap.size (w.heap.size + 1) w'.heap.size (w'.heap.size + 1) (.slice mq M nq) ms cf lv ln lg p (ev % 16) a 1 _ _ _) := O0.out.step BX.out (by omega) hk hs' ho
    have C1 : Hid (Chg (fun b => B ≤ b ∧ ¬ X b) w _) := O0.out.chg (out := o0) hk C0.out (Nat.le_refl _) (by omega)
    clear hk hs' ho SS SS1 Z hX1 hX2 hX3 O0 C0
    generalize hW : (X0.setCell ⟨w.heap.size, 3, none⟩ V1).setCell ⟨w'.heap.size, 4, none⟩ o0 = W1 at *
    have O1 : Hid (Obs B L X k N w.heap.size (w.heap.size + 1) w'.heap.size (w'.heap.size + 1) (.slice mq M nq) ms cf lv ln lg p (ev % 16) a 1 W1 V1 _) := O1
    generalize hov : vset (fun _ => .slice none 0 0) 0 o0 = ov1 at O1
    clear hW hov
    go_wp2_with fail
    have Z : W1.cell? ⟨(w'.heap.size + 1), 5, none⟩ = some (lv 1) ∧ W1.cell? ⟨L.kb, 3, none⟩ = some (.slice (some ⟨L.o, 0, none⟩) k.n k.n) := ⟨O1.out.lbox 1 (by omega), O1.out.kat.f3⟩
    refine wp_region_S (fun W => W.cell? ⟨(w'.heap.size + 1), 5, none⟩ = some (lv 1) ∧ W.cell? ⟨L.kb, 3, none⟩ = some (.slice (some ⟨L.o, 0, none⟩) k.n k.n)) [2, 3, 4, 5, 6, 7, 11] (by kernel_rfl) ?_
    have SS : W1.drew.cell? ⟨(w'.heap.size + 1), 5, none⟩ = some (lv 1) ∧ W1.drew.cell? ⟨L.kb, 3, none⟩ = some (.slice (some ⟨L.o, 0, none⟩) k.n k.n) := Z
    refine wpAnyS_take 2 (Value.pointer (some ⟨(w'.heap.size + 1), 5, none⟩)) rfl (by kernel_rfl) (by kernel_rfl) (by kernel_rfl) (by kernel_rfl) (fun _ _ _ h => h) (by rfl) SS (fun _ _ => by kernel_rfl) ?_
    simp only [Act.put, List.setIfInBounds_toArray, List.set_cons_zero, List.set_cons_succ]
    refine wpAnyS_take 3 (lv 1) rfl (by kernel_rfl) (by kernel_rfl) (by kernel_rfl) (by kernel_rfl) (fun _ _ _ h => h) (by rfl) SS (fun _ h => run_load23 rfl rfl (h.1)) ?_
    simp only [Act.put, List.setIfInBounds_toArray, List.set_cons_zero, List.set_cons_succ]
    refine wpAnyS_take 4 (Value.pointer (some ⟨L.kb, 0, none⟩)) rfl (by kernel_rfl) (by kernel_rfl) (by kernel_rfl) (by kernel_rfl) (fun _ _ _ h => h) (by rfl) SS (fun _ _ => rfl) ?_
    simp only [Act.put, List.setIfInBounds_toArray, List.set_cons_zero, List.set_cons_succ]
    refine wpAnyS_take 5 (Value.pointer (some ⟨L.kb, 0, none⟩)) rfl (by kernel_rfl) (by kernel_rfl) (by kernel_rfl) (by kernel_rfl) (fun _ _ _ h => h) (by rfl) SS (fun _ _ => rfl) ?_
    simp only [Act.put, List.setIfInBounds_toArray, List.set_cons_zero, List.set_cons_succ]
    refine wpAnyS_take 6 (Value.pointer (some ⟨L.kb, 3, none⟩)) rfl (by kernel_rfl) (by kernel_rfl) (by kernel_rfl) (by kernel_rfl) (fun _ _ _ h => h) (by rfl) SS (fun _ _ => by kernel_rfl) ?_
    simp only [Act.put, List.setIfInBounds_toArray, List.set_cons_zero, List.set_cons_succ]
    refine wpAnyS_take 7 (Value.slice (some ⟨L.o, 0, none⟩) k.n k.n) rfl (by kernel_rfl) (by kernel_rfl) (by kernel_rfl) (by kernel_rfl) (fun _ _ _ h => h) (by rfl) SS (fun _ h => run_load23 rfl rfl (h.2)) ?_
    simp only [Act.put, List.setIfInBounds_toArray, List.set_cons_zero, List.set_cons_succ]
    refine wpAnyS_one 0 rfl (by kernel_rfl) (by rfl) ?_
    refine wp_val (.pointer (some ⟨w.heap.size, 3, none⟩)) (w' := W1.drew) (by kernel_rfl) ⟨.inr SS, ?_⟩
    simp only [Act.put, List.setIfInBounds_toArray, List.set_cons_zero, List.set_cons_succ]
    refine wpAnyS_one 1 rfl (by kernel_rfl) (by rfl) ?_
    refine wp_val V1 (w' := W1.drew) (run_load23 rfl rfl O1.out.v3) ⟨.inr SS, ?_⟩
    simp only [Act.put, List.setIfInBounds_toArray, List.set_cons_zero, List.set_cons_succ]
    refine wpAnyS_one 8 rfl (by kernel_rfl) (by rfl) ?_
    refine wp_callF 77 Yapd.func77 rfl (by kernel_rfl) [V1, lv 1, .slice (some ⟨L.o, 0, none⟩) k.n k.n] rfl rfl (fun v w' => KeepPost W1.drew V1 (lv 1) (fN k 1) (fF k 1) (.returned v) w')
      ((O1.out.keep (by omega) (HS.out 1 (by omega)).2 _).mono fun e w' h => by
        obtain ⟨V', out, rfl, h⟩ := h
        exact ⟨_, rfl, V', out, rfl, h⟩) ?_
    rintro v X1 ⟨V2, o1, e, hk, hs', ho⟩
    obtain rfl : v = .tuple #[V2, o1] := by simpa using e
    clear e SS
    have SS : X1.cell? ⟨(w'.heap.size + 1), 5, none⟩ = some (lv 1) ∧ X1.cell? ⟨L.kb, 3, none⟩ = some (.slice (some ⟨L.o, 0, none⟩) k.n k.n) := ⟨O1.out.keptCell hk (.inr (.inr (.inr (.inr rfl)))) Z.1, O1.out.keptCell hk (.inl (H.out.sub _ (by simp [Lay.mem, Lay.list]))) Z.2⟩
    refine ⟨.inr SS, ?_⟩
    simp only [Act.put, List.setIfInBounds_toArray, List.set_cons_zero, List.set_cons_succ]
    refine wpAnyS_one 9 rfl (by kernel_rfl) (by rfl) ?_
    refine wp_val (.tuple #[V2, o1]) (w' := X1) (by kernel_rfl) ⟨.inr SS, ?_⟩
    simp only [Act.put, List.setIfInBounds_toArray, List.set_cons_zero, List.set_cons_succ]
    refine wpAnyS_take 11 o1 rfl (by kernel_rfl) (by kernel_rfl) (by kernel_rfl) (by kernel_rfl) (fun _ _ _ h => h) (by rfl) SS (fun _ _ => by kernel_rfl) ?_
    simp only [Act.put, List.setIfInBounds_toArray, List.set_cons_zero, List.set_cons_succ]
    refine wpAnyS_one 10 rfl (by kernel_rfl) (by rfl) ?_
    refine wp_val V2 (w' := X1) (by kernel_rfl) ⟨.inr SS, ?_⟩
    simp only [Act.put, List.setIfInBounds_toArray, List.set_cons_zero, List.set_cons_succ]
    refine wpAnyS_one 12 rfl (by kernel_rfl) (by rfl) ?_
    refine wp_val (.pointer (some ⟨w.heap.size, 3, none⟩)) (w' := X1) (by kernel_rfl) ⟨.inr SS, ?_⟩
    simp only [Act.put, List.setIfInBounds_toArray, List.set_cons_zero, List.set_cons_succ]
    refine wpAnyS_one 13 rfl (by kernel_rfl) (by rfl) ?_
    have hX1 := O1.out.keptHeap hk (.inr (.inl rfl)) O1.out.hbox
    have hX2 := O1.out.keptHeap hk (.inr (.inr (.inr (.inl rfl)))) O1.out.mbox
    refine wp_store23 (v := V2) (u := V1) rfl rfl rfl hk.arena.slice (by rw [cell_of hX1]; rfl) (frozen_of hX1) ?_
    have SS1 : (X1.setCell ⟨w.heap.size, 3, none⟩ V2).cell? ⟨(w'.heap.size + 1), 5, none⟩ = some (lv 1) ∧ (X1.setCell ⟨w.heap.size, 3, none⟩ V2).cell? ⟨L.kb, 3, none⟩ = some (.slice (some ⟨L.o, 0, none⟩) k.n k.n) := by
      constructor
      · rw [World.cell?_of_block (w := X1) (heap_set_ne (Ne.symm BX.out.hl))]; exact SS.1
      · rw [World.cell?_of_block (w := X1) (heap_set_ne (Nat.ne_of_lt hk1))]; exact SS.2
    refine ⟨.inr SS1, ?_⟩
    simp only [Act.put, List.setIfInBounds_toArray, List.set_cons_zero, List.set_cons_succ]
    refine wpAnyS_one 14 rfl (by kernel_rfl) (by rfl) ?_
    refine wp_val (.pointer (some ⟨w'.heap.size, 5, none⟩)) (w' := X1.setCell ⟨w.heap.size, 3, none⟩ V2) (by kernel_rfl) ⟨.inr SS1, ?_⟩
    simp only [Act.put, List.setIfInBounds_toArray, List.set_cons_zero, List.set_cons_succ]
    refine wpAnyS_one 15 rfl (by kernel_rfl) (by rfl) ?_
    have hX3 : (X1.setCell ⟨w.heap.size, 3, none⟩ V2).heap[w'.heap.size]? = _ := (heap_set_ne (Ne.symm BX.out.hm)).trans hX2
    refine wp_store23 (v := o1) (u := ov1 1) rfl rfl rfl hs'.slice (by rw [cell_of hX3]; rfl) (frozen_of hX3) ?_
    refine ⟨.inl (by kernel_rfl), wpAnyS_done (by kernel_rfl) ?_⟩
    simp only [Act.put, List.setIfInBounds_toArray, List.set_cons_zero, List.set_cons_succ]
    have O2 : Hid (Obs B L X k N w.heap.size (w.heap.size + 1) w'.heap.size (w'.heap.size + 1) (.slice mq M nq) ms cf lv ln lg p (ev % 16) a 2 _ _ _) := O1.out.step BX.out (by omega) hk hs' ho
    have C2 : Hid (Chg (fun b => B ≤ b ∧ ¬ X b) w _) := O1.out.chg (out := o1) hk C1.out (Nat.le_refl _) (by omega)
    clear hk hs' ho SS SS1 Z hX1 hX2 hX3 O1 C1
    generalize hW : (X1.setCell ⟨w.heap.size, 3, none⟩ V2).setCell ⟨w'.heap.size, 5, none⟩ o1 = W2 at *
    have O2 : Hid (Obs B L X k N w.heap.size (w.heap.size + 1) w'.heap.size (w'.heap.size + 1) (.slice mq M nq) ms cf lv ln lg p (ev % 16) a 2 W2 V2 _) := O2
    generalize hov : vset ov1 1 o1 = ov2 at O2
    clear hW hov
    go_wp2_with fail
    have Z : W2.cell? ⟨(w'.heap.size + 1), 6, none⟩ = some (lv 2) ∧ W2.cell? ⟨L.kb, 4, none⟩ = some (.slice (some ⟨L.u, 0, none⟩) k.n k.n) := ⟨O2.out.lbox 2 (by omega), O2.out.kat.f4⟩
    refine wp_region_S (fun W => W.cell? ⟨(w'.heap.size + 1), 6, none⟩ = some (lv 2) ∧ W.cell? ⟨L.kb, 4, none⟩ = some (.slice (some ⟨L.u, 0, none⟩) k.n k.n)) [2, 3, 4, 5, 6, 7, 11] (by kernel_rfl) ?_
    have SS : W2.drew.cell? ⟨(w'.heap.size + 1), 6, none⟩ = some (lv 2) ∧ W2.drew.cell? ⟨L.kb, 4, none⟩ = some (.slice (some ⟨L.u, 0, none⟩) k.n k.n) := Z
    refine wpAnyS_take 2 (Value.pointer (some ⟨(w'.heap.size + 1), 6, none⟩)) rfl (by kernel_rfl) (by kernel_rfl) (by kernel_rfl) (by kernel_rfl) (fun _ _ _ h => h) (by rfl) SS (fun _ _ => by kernel_rfl) ?_
    simp only [Act.put, List.setIfInBounds_toArray, List.set_cons_zero, List.set_cons_succ]
    refine wpAnyS_take 3 (lv 2) rfl (by kernel_rfl) (by kernel_rfl) (by kernel_rfl) (by kernel_rfl) (fun _ _ _ h => h) (by rfl) SS (fun _ h => run_load23 rfl rfl (h.1)) ?_
    simp only [Act.put, List.setIfInBounds_toArray, List.set_cons_zero, List.set_cons_succ]
    refine wpAnyS_take 4 (Value.pointer (some ⟨L.kb, 0, none⟩)) rfl (by kernel_rfl) (by kernel_rfl) (by kernel_rfl) (by kernel_rfl) (fun _ _ _ h => h) (by rfl) SS (fun _ _ => rfl) ?_
    simp only [Act.put, List.setIfInBounds_toArray, List.set_cons_zero, List.set_cons_succ]
    refine wpAnyS_take 5 (Value.pointer (some ⟨L.kb, 0, none⟩)) rfl (by kernel_rfl) (by kernel_rfl) (by kernel_rfl) (by kernel_rfl) (fun _ _ _ h => h) (by rfl) SS (fun _ _ => rfl) ?_
    simp only [Act.put, List.setIfInBounds_toArray, List.set_cons_zero, List.set_cons_succ]
    refine wpAnyS_take 6 (Value.pointer (some ⟨L.kb, 4, none⟩)) rfl (by kernel_rfl) (by kernel_rfl) (by kernel_rfl) (by kernel_rfl) (fun _ _ _ h => h) (by rfl) SS (fun _ _ => by kernel_rfl) ?_
    simp only [Act.put, List.setIfInBounds_toArray, List.set_cons_zero, List.set_cons_succ]
    refine wpAnyS_take 7 (Value.slice (some ⟨L.u, 0, none⟩) k.n k.n) rfl (by kernel_rfl) (by kernel_rfl) (by kernel_rfl) (by kernel_rfl) (fun _ _ _ h => h) (by rfl) SS (fun _ h => run_load23 rfl rfl (h.2)) ?_
    simp only [Act.put, List.setIfInBounds_toArray, List.set_cons_zero, List.set_cons_succ]
    refine wpAnyS_one 0 rfl (by kernel_rfl) (by rfl) ?_
    refine wp_val (.pointer (some ⟨w.heap.size, 3, none⟩)) (w' := W2.drew) (by kernel_rfl) ⟨.inr SS, ?_⟩
    simp only [Act.put, List.setIfInBounds_toArray, List.set_cons_zero, List.set_cons_succ]
    refine wpAnyS_one 1 rfl (by kernel_rfl) (by rfl) ?_
    refine wp_val V2 (w' := W2.drew) (run_load23 rfl rfl O2.out.v3) ⟨.inr SS, ?_⟩
    simp only [Act.put, List.setIfInBounds_toArray, List.set_cons_zero, List.set_cons_succ]
    refine wpAnyS_one 8 rfl (by kernel_rfl) (by rfl) ?_
    refine wp_callF 77 Yapd.func77 rfl (by kernel_rfl) [V2, lv 2, .slice (some ⟨L.u, 0, none⟩) k.n k.n] rfl rfl (fun v w' => KeepPost W2.drew V2 (lv 2) (fN k 2) (fF k 2) (.returned v) w')
      ((O2.out.keep (by omega) (HS.out 2 (by omega)).2 _).mono fun e w' h => by
        obtain ⟨V', out, rfl, h⟩ := h
        exact ⟨_, rfl, V', out, rfl, h⟩) ?_
    rintro v X2 ⟨V3, o2, e, hk, hs', ho⟩
    obtain rfl : v = .tuple #[V3, o2] := by simpa using e
    clear e SS
    have SS : X2.cell? ⟨(w'.heap.size + 1), 6, none⟩ = some (lv 2) ∧ X2.cell? ⟨L.kb, 4, none⟩ = some (.slice (some ⟨L.u, 0, none⟩) k.n k.n) := ⟨O2.out.keptCell hk (.inr (.inr (.inr (.inr rfl)))) Z.1, O2.out.keptCell hk (.inl (H.out.sub _ (by simp [Lay.mem, Lay.list]))) Z.2⟩
    refine ⟨.inr SS, ?_⟩
    simp only [Act.put, List.setIfInBounds_toArray, List.set_cons_zero, List.set_cons_succ]
    refine wpAnyS_one 9 rfl (by kernel_rfl) (by rfl) ?_
    refine wp_val (.tuple #[V3, o2]) (w' := X2) (by kernel_rfl) ⟨.inr SS, ?_⟩
    simp only [Act.put, List.setIfInBounds_toArray, List.set_cons_zero, List.set_cons_succ]
    refine wpAnyS_take 11 o2 rfl (by kernel_rfl) (by kernel_rfl) (by kernel_rfl) (by kernel_rfl) (fun _ _ _ h => h) (by rfl) SS (fun _ _ => by kernel_rfl) ?_
    simp only [Act.put, List.setIfInBounds_toArray, List.set_cons_zero, List.set_cons_succ]
    refine wpAnyS_one 10 rfl (by kernel_rfl) (by rfl) ?_
    refine wp_val V3 (w' := X2) (by kernel_rfl) ⟨.inr SS, ?_⟩
    simp only [Act.put, List.setIfInBounds_toArray, List.set_cons_zero, List.set_cons_succ]
    refine wpAnyS_one 12 rfl (by kernel_rfl) (by rfl) ?_
    refine wp_val (.pointer (some ⟨w.heap.size, 3, none⟩)) (w' := X2) (by kernel_rfl) ⟨.inr SS, ?_⟩
    simp only [Act.put, List.setIfInBounds_toArray, List.set_cons_zero, List.set_cons_succ]
    refine wpAnyS_one 13 rfl (by kernel_rfl) (by rfl) ?_
    have hX1 := O2.out.keptHeap hk (.inr (.inl rfl)) O2.out.hbox
    have hX2 := O2.out.keptHeap hk (.inr (.inr (.inr (.inl rfl)))) O2.out.mbox
    refine wp_store23 (v := V3) (u := V2) rfl rfl rfl hk.arena.slice (by rw [cell_of hX1]; rfl) (frozen_of hX1) ?_
    have SS1 : (X2.setCell ⟨w.heap.size, 3, none⟩ V3).cell? ⟨(w'.heap.size + 1), 6, none⟩ = some (lv 2) ∧ (X2.setCell ⟨w.heap.size, 3, none⟩ V3).cell? ⟨L.kb, 4, none⟩ = some (.slice (some ⟨L.u, 0, none⟩) k.n k.n) := by
      constructor
      · rw [World.cell?_of_block (w := X2) (heap_set_ne (Ne.symm BX.out.hl))]; exact SS.1
      · rw [World.cell?_of_block (w := X2) (heap_set_ne (Nat.ne_of_lt hk1))]; exact SS.2
    refine ⟨.inr SS1, ?_⟩
    simp only [Act.put, List.setIfInBounds_toArray, List.set_cons_zero, List.set_cons_succ]
    refine wpAnyS_one 14 rfl (by kernel_rfl) (by rfl) ?_
    refine wp_val (.pointer (some ⟨w'.heap.size, 6, none⟩)) (w' := X2.setCell ⟨w.heap.size, 3, none⟩ V3) (by kernel_rfl) ⟨.inr SS1, ?_⟩
    simp only [Act.put, List.setIfInBounds_toArray, List.set_cons_zero, List.set_cons_succ]
    refine wpAnyS_one 15 rfl (by kernel_rfl) (by rfl) ?_
    have hX3 : (X2.setCell ⟨w.heap.size, 3, none⟩ V3).heap[w'.heap.size]? = _ := (heap_set_ne (Ne.symm BX.out.hm)).trans hX2
    refine wp_store23 (v := o2) (u := ov2 2) rfl rfl rfl hs'.slice (by rw [cell_of hX3]; rfl) (frozen_of hX3) ?_
    refine ⟨.inl (by kernel_rfl), wpAnyS_done (by kernel_rfl) ?_⟩
    simp only [Act.put, List.setIfInBounds_toArray, List.set_cons_zero, List.set_cons_succ]
    have O3 : Hid (Obs B L X k N w.heap.size (w.heap.size + 1) w'.heap.size (w'.heap.size + 1) (.slice mq M nq) ms cf lv ln lg p (ev % 16) a 3 _ _ _) := O2.out.step BX.out (by omega) hk hs' ho
    have C3 : Hid (Chg (fun b => B ≤ b ∧ ¬ X b) w _) := O2.out.chg (out := o2) hk C2.out (Nat.le_refl _) (by omega)
    clear hk hs' ho SS SS1 Z hX1 hX2 hX3 O2 C2
    generalize hW : (X2.setCell ⟨w.heap.size, 3, none⟩ V3).setCell ⟨w'.heap.size, 6, none⟩ o2 = W3 at *
    have O3 : Hid (Obs B L X k N w.heap.size (w.heap.size + 1) w'.heap.size (w'.heap.size + 1) (.slice mq M nq) ms cf lv ln lg p (ev % 16) a 3 W3 V3 _) := O3
    generalize hov : vset ov2 2 o2 = ov3 at O3
    clear hW hov
    go_wp2_with fail
    have Z : W3.cell? ⟨(w'.heap.size + 1), 7, none⟩ = some (lv 3) ∧ W3.cell? ⟨L.kb, 2, none⟩ = some (.slice (some ⟨L.a, 0, none⟩) k.n k.n) := ⟨O3.out.lbox 3 (by omega), O3.out.kat.f2⟩
    refine wp_region_S (fun W => W.cell? ⟨(w'.heap.size + 1), 7, none⟩ = some (lv 3) ∧ W.cell? ⟨L.kb, 2, none⟩ = some (.slice (some ⟨L.a, 0, none⟩) k.n k.n)) [2, 3, 4, 5, 6, 7, 11] (by kernel_rfl) ?_
    have SS : W3.drew.cell? ⟨(w'.heap.size + 1), 7, none⟩ = some (lv 3) ∧ W3.drew.cell? ⟨L.kb, 2, none⟩ = some (.slice (some ⟨L.a, 0, none⟩) k.n k.n) := Z
    refine wpAnyS_take 2 (Value.pointer (some ⟨(w'.heap.size + 1), 7, none⟩)) rfl (by kernel_rfl) (by kernel_rfl) (by kernel_rfl) (by kernel_rfl) (fun _ _ _ h => h) (by rfl) SS (fun _ _ => by kernel_rfl) ?_
    simp only [Act.put, List.setIfInBounds_toArray, List.set_cons_zero, List.set_cons_succ]
    refine wpAnyS_take 3 (lv 3) rfl (by kernel_rfl) (by kernel_rfl) (by kernel_rfl) (by kernel_rfl) (fun _ _ _ h => h) (by rfl) SS (fun _ h => run_load23 rfl rfl (h.1)) ?_
    simp only [Act.put, List.setIfInBounds_toArray, List.set_cons_zero, List.set_cons_succ]
    refine wpAnyS_take 4 (Value.pointer (some ⟨L.kb, 0, none⟩)) rfl (by kernel_rfl) (by kernel_rfl) (by kernel_rfl) (by kernel_rfl) (fun _ _ _ h => h) (by rfl) SS (fun _ _ => rfl) ?_
    simp only [Act.put, List.setIfInBounds_toArray, List.set_cons_zero, List.set_cons_succ]
    refine wpAnyS_take 5 (Value.pointer (some ⟨L.kb, 0, none⟩)) rfl (by kernel_rfl) (by kernel_rfl) (by kernel_rfl) (by kernel_rfl) (fun _ _ _ h => h) (by rfl) SS (fun _ _ => rfl) ?_
    simp only [Act.put, List.setIfInBounds_toArray, List.set_cons_zero, List.set_cons_succ]
    refine wpAnyS_take 6 (Value.pointer (some ⟨L.kb, 2, none⟩)) rfl (by kernel_rfl) (by kernel_rfl) (by kernel_rfl) (by kernel_rfl) (fun _ _ _ h => h) (by rfl) SS (fun _ _ => by kernel_rfl) ?_
    simp only [Act.put, List.setIfInBounds_toArray, List.set_cons_zero, List.set_cons_succ]
    refine wpAnyS_take 7 (Value.slice (some ⟨L.a, 0, none⟩) k.n k.n) rfl (by kernel_rfl) (by kernel_rfl) (by kernel_rfl) (by kernel_rfl) (fun _ _ _ h => h) (by rfl) SS (fun _ h => run_load23 rfl rfl (h.2)) ?_
    simp only [Act.put, List.setIfInBounds_toArray, List.set_cons_zero, List.set_cons_succ]
    refine wpAnyS_one 0 rfl (by kernel_rfl) (by rfl) ?_
    refine wp_val (.pointer (some ⟨w.heap.size, 3, none⟩)) (w' := W3.drew) (by kernel_rfl) ⟨.inr SS, ?_⟩
    simp only [Act.put, List.setIfInBounds_toArray, List.set_cons_zero, List.set_cons_succ]
    refine wpAnyS_one 1 rfl (by kernel_rfl) (by rfl) ?_
    refine wp_val V3 (w' := W3.drew) (run_load23 rfl rfl O3.out.v3) ⟨.inr SS, ?_⟩
    simp only [Act.put, List.setIfInBounds_toArray, List.set_cons_zero, List.set_cons_succ]
    refine wpAnyS_one 8 rfl (by kernel_rfl) (by rfl) ?_
    refine wp_callF 77 Yapd.func77 rfl (by kernel_rfl) [V3, lv 3, .slice (some ⟨L.a, 0, none⟩) k.n k.n] rfl rfl (fun v w' => KeepPost W3.drew V3 (lv 3) (fN k 3) (fF k 3) (.returned v) w')
      ((O3.out.keep (by omega) (HS.out 3 (by omega)).2 _).mono fun e w' h => by
        obtain ⟨V', out, rfl, h⟩ := h
        exact ⟨_, rfl, V', out, rfl, h⟩) ?_
    rintro v X3 ⟨V4, o3, e, hk, hs', ho⟩
    obtain rfl : v = .tuple #[V4, o3] := by simpa using e
    clear e SS
    have SS : X3.cell? ⟨(w'.heap.size + 1), 7, none⟩ = some (lv 3) ∧ X3.cell? ⟨L.kb, 2, none⟩ = some (.slice (some ⟨L.a, 0, none⟩) k.n k.n) := ⟨O3.out.keptCell hk (.inr (.inr (.inr (.inr rfl)))) Z.1, O3.out.keptCell hk (.inl (H.out.sub _ (by simp [Lay.mem, Lay.list]))) Z.2⟩
    refine ⟨.inr SS, ?_⟩
    simp only [Act.put, List.setIfInBounds_toArray, List.set_cons_zero, List.set_cons_succ]
    refine wpAnyS_one 9 rfl (by kernel_rfl) (by rfl) ?_
    refine wp_val (.tuple #[V4, o3]) (w' := X3) (by kernel_rfl) ⟨.inr SS, ?_⟩
    simp only [Act.put, List.setIfInBounds_toArray, List.set_cons_zero, List.set_cons_succ]
    refine wpAnyS_take 11 o3 rfl (by kernel_rfl) (by kernel_rfl) (by kernel_rfl) (by kernel_rfl) (fun _ _ _ h => h) (by rfl) SS (fun _ _ => by kernel_rfl) ?_
    simp only [Act.put, List.setIfInBounds_toArray, List.set_cons_zero, List.set_cons_succ]
    refine wpAnyS_one 10 rfl (by kernel_rfl) (by rfl) ?_
    refine wp_val V4 (w' := X3) (by kernel_rfl) ⟨.inr SS, ?_⟩
    simp only [Act.put, List.setIfInBounds_toArray, List.set_cons_zero, List.set_cons_succ]
    refine wpAnyS_one 12 rfl (by kernel_rfl) (by rfl) ?_
    refine wp_val (.pointer (some ⟨w.heap.size, 3, none⟩)) (w' := X3) (by kernel_rfl) ⟨.inr SS, ?_⟩
    simp only [Act.put, List.setIfInBounds_toArray, List.set_cons_zero, List.set_cons_succ]
    refine wpAnyS_one 13 rfl (by kernel_rfl) (by rfl) ?_
    have hX1 := O3.out.keptHeap hk (.inr (.inl rfl)) O3.out.hbox
    have hX2 := O3.out.keptHeap hk (.inr (.inr (.inr (.inl rfl)))) O3.out.mbox
    refine wp_store23 (v := V4) (u := V3) rfl rfl rfl hk.arena.slice (by rw [cell_of hX1]; rfl) (frozen_of hX1) ?_
    have SS1 : (X3.setCell ⟨w.heap.size, 3, none⟩ V4).cell? ⟨(w'.heap.size + 1), 7, none⟩ = some (lv 3) ∧ (X3.setCell ⟨w.heap.size, 3, none⟩ V4).cell? ⟨L.kb, 2, none⟩ = some (.slice (some ⟨L.a, 0, none⟩) k.n k.n) := by
      constructor
      · rw [World.cell?_of_block (w := X3) (heap_set_ne (Ne.symm BX.out.hl))]; exact SS.1
      · rw [World.cell?_of_block (w := X3) (heap_set_ne (Nat.ne_of_lt hk1))]; exact SS.2
    refine ⟨.inr SS1, ?_⟩
    simp only [Act.put, List.setIfInBounds_toArray, List.set_cons_zero, List.set_cons_succ]
    refine wpAnyS_one 14 rfl (by kernel_rfl) (by rfl) ?_
    refine wp_val (.pointer (some ⟨w'.heap.size, 7, none⟩)) (w' := X3.setCell ⟨w.heap.size, 3, none⟩ V4) (by kernel_rfl) ⟨.inr SS1, ?_⟩
    simp only [Act.put, List.setIfInBounds_toArray, List.set_cons_zero, List.set_cons_succ]
    refine wpAnyS_one 15 rfl (by kernel_rfl) (by rfl) ?_
    have hX3 : (X3.setCell ⟨w.heap.size, 3, none⟩ V4).heap[w'.heap.size]? = _ := (heap_set_ne (Ne.symm BX.out.hm)).trans hX2
    refine wp_store23 (v := o3) (u := ov3 3) rfl rfl rfl hs'.slice (by rw [cell_of hX3]; rfl) (frozen_of hX3) ?_
    refine ⟨.inl (by kernel_rfl), wpAnyS_done (by kernel_rfl) ?_⟩
    simp only [Act.put, List.setIfInBounds_toArray, List.set_cons_zero, List.set_cons_succ]
    have O4 : Hid (Obs B L X k N w.heap.size (w.heap.size + 1) w'.heap.size (w'.heap.size + 1) (.slice mq M nq) ms cf lv ln lg p (ev % 16) a 4 _ _ _) := O3.out.step BX.out (by omega) hk hs' ho
    have C4 : Hid (Chg (fun b => B ≤ b ∧ ¬ X b) w _) := O3.out.chg (out := o3) hk C3.out (Nat.le_refl _) (by omega)
    clear hk hs' ho SS SS1 Z hX1 hX2 hX3 O3 C3
    generalize hW : (X3.setCell ⟨w.heap.size, 3, none⟩ V4).setCell ⟨w'.heap.size, 7, none⟩ o3 = W4 at *
    have O4 : Hid (Obs B L X k N w.heap.size (w.heap.size + 1) w'.heap.size (w'.heap.size + 1) (.slice mq M nq) ms cf lv ln lg p (ev % 16) a 4 W4 V4 _) := O4
    generalize hov : vset ov3 3 o3 = ov4 at O4
    clear hW hov
    go_wp2_with fail
    have Z : W4.cell? ⟨(w'.heap.size + 1), 8, none⟩ = some (lv 4) ∧ W4.cell? ⟨L.kb, 5, none⟩ = some (.slice (some ⟨L.p, 0, none⟩) k.pipe.length 3) := ⟨O4.out.lbox 4 (by omega), O4.out.kat.f5⟩
    refine wp_region_S (fun W => W.cell? ⟨(w'.heap.size + 1), 8, none⟩ = some (lv 4) ∧ W.cell? ⟨L.kb, 5, none⟩ = some (.slice (some ⟨L.p, 0, none⟩) k.pipe.length 3)) [2, 3, 4, 5, 6, 7, 11] (by kernel_rfl) ?_
    have SS : W4.drew.cell? ⟨(w'.heap.size + 1), 8, none⟩ = some (lv 4) ∧ W4.drew.cell? ⟨L.kb, 5, none⟩ = some (.slice (some ⟨L.p, 0, none⟩) k.pipe.length 3) := Z
    refine wpAnyS_take 2 (Value.pointer (some ⟨(w'.heap.size + 1), 8, none⟩)) rfl (by kernel_rfl) (by kernel_rfl) (by kernel_rfl) (by kernel_rfl) (fun _ _ _ h => h) (by rfl) SS (fun _ _ => by kernel_rfl) ?_
    simp only [Act.put, List.setIfInBounds_toArray, List.set_cons_zero, List.set_cons_succ]
    refine wpAnyS_take 3 (lv 4) rfl (by kernel_rfl) (by kernel_rfl) (by kernel_rfl) (by kernel_rfl) (fun _ _ _ h => h) (by rfl) SS (fun _ h => run_load23 rfl rfl (h.1)) ?_
    simp only [Act.put, List.setIfInBounds_toArray, List.set_cons_zero, List.set_cons_succ]
    refine wpAnyS_take 4 (Value.pointer (some ⟨L.kb, 0, none⟩)) rfl (by kernel_rfl) (by kernel_rfl) (by kernel_rfl) (by kernel_rfl) (fun _ _ _ h => h) (by rfl) SS (fun _ _ => rfl) ?_
    simp only [Act.put, List.setIfInBounds_toArray, List.set_cons_zero, List.set_cons_succ]
    refine wpAnyS_take 5 (Value.pointer (some ⟨L.kb, 0, none⟩)) rfl (by kernel_rfl) (by kernel_rfl) (by kernel_rfl) (by kernel_rfl) (fun _ _ _ h => h) (by rfl) SS (fun _ _ => rfl) ?_
    simp only [Act.put, List.setIfInBounds_toArray, List.set_cons_zero, List.set_cons_succ]
    refine wpAnyS_take 6 (Value.pointer (some ⟨L.kb, 5, none⟩)) rfl (by kernel_rfl) (by kernel_rfl) (by kernel_rfl) (by kernel_rfl) (fun _ _ _ h => h) (by rfl) SS (fun _ _ => by kernel_rfl) ?_
    simp only [Act.put, List.setIfInBounds_toArray, List.set_cons_zero, List.set_cons_succ]
    refine wpAnyS_take 7 (Value.slice (some ⟨L.p, 0, none⟩) k.pipe.length 3) rfl (by kernel_rfl) (by kernel_rfl) (by kernel_rfl) (by kernel_rfl) (fun _ _ _ h => h) (by rfl) SS (fun _ h => run_load23 rfl rfl (h.2)) ?_
    simp only [Act.put, List.setIfInBounds_toArray, List.set_cons_zero, List.set_cons_succ]
    refine wpAnyS_one 0 rfl (by kernel_rfl) (by rfl) ?_
    refine wp_val (.pointer (some ⟨w.heap.size, 3, none⟩)) (w' := W4.drew) (by kernel_rfl) ⟨.inr SS, ?_⟩
    simp only [Act.put, List.setIfInBounds_toArray, List.set_cons_zero, List.set_cons_succ]
    refine wpAnyS_one 1 rfl (by kernel_rfl) (by rfl) ?_
    refine wp_val V4 (w' := W4.drew) (run_load23 rfl rfl O4.out.v3) ⟨.inr SS, ?_⟩
    simp only [Act.put, List.setIfInBounds_toArray, List.set_cons_zero, List.set_cons_succ]
    refine wpAnyS_one 8 rfl (by kernel_rfl) (by rfl) ?_
    refine wp_callF 77 Yapd.func77 rfl (by kernel_rfl) [V4, lv 4, .slice (some ⟨L.p, 0, none⟩) k.pipe.length 3] rfl rfl (fun v w' => KeepPost W4.drew V4 (lv 4) (fN k 4) (fF k 4) (.returned v) w')
      ((O4.out.keep (by omega) (HS.out 4 (by omega)).2 _).mono fun e w' h => by
        obtain ⟨V', out, rfl, h⟩ := h
        exact ⟨_, rfl, V', out, rfl, h⟩) ?_
    rintro v X4 ⟨V5, o4, e, hk, hs', ho⟩
    obtain rfl : v = .tuple #[V5, o4] := by simpa using e
    clear e SS
    have SS : X4.cell? ⟨(w'.heap.size + 1), 8, none⟩ = some (lv 4) ∧ X4.cell? ⟨L.kb, 5, none⟩ = some (.slice (some ⟨L.p, 0, none⟩) k.pipe.length 3) := ⟨O4.out.keptCell hk (.inr (.inr (.inr (.inr rfl)))) Z.1, O4.out.keptCell hk (.inl (H.out.sub _ (by simp [Lay.mem, Lay.list]))) Z.2⟩
    refine ⟨.inr SS, ?_⟩
    simp only [Act.put, List.setIfInBounds_toArray, List.set_cons_zero, List.set_cons_succ]
    refine wpAnyS_one 9 rfl (by kernel_rfl) (by rfl) ?_
    refine wp_val (.tuple #[V5, o4]) (w' := X4) (by kernel_rfl) ⟨.inr SS, ?_⟩
    simp only [Act.put, List.setIfInBounds_toArray, List.set_cons_zero, List.set_cons_succ]
    refine wpAnyS_take 11 o4 rfl (by kernel_rfl) (by kernel_rfl) (by kernel_rfl) (by kernel_rfl) (fun _ _ _ h => h) (by rfl) SS (fun _ _ => by kernel_rfl) ?_
    simp only [Act.put, List.setIfInBounds_toArray, List.set_cons_zero, List.set_cons_succ]
    refine wpAnyS_one 10 rfl (by kernel_rfl) (by rfl) ?_
    refine wp_val V5 (w' := X4) (by kernel_rfl) ⟨.inr SS, ?_⟩
    simp only [Act.put, List.setIfInBounds_toArray, List.set_cons_zero, List.set_cons_succ]
    refine wpAnyS_one 12 rfl (by kernel_rfl) (by rfl) ?_
    refine wp_val (.pointer (some ⟨w.heap.size, 3, none⟩)) (w' := X4) (by kernel_rfl) ⟨.inr SS, ?_⟩
    simp only [Act.put, List.setIfInBounds_toArray, List.set_cons_zero, List.set_cons_succ]
    refine wpAnyS_one 13 rfl (by kernel_rfl) (by rfl) ?_
    have hX1 := O4.out.keptHeap hk (.inr (.inl rfl)) O4.out.hbox
    have hX2 := O4.out.keptHeap hk (.inr (.inr (.inr (.inl rfl)))) O4.out.mbox
    refine wp_store23 (v := V5) (u := V4) rfl rfl rfl hk.arena.slice (by rw [cell_of hX1]; rfl) (frozen_of hX1) ?_
    have SS1 : (X4.setCell ⟨w.heap.size, 3, none⟩ V5).cell? ⟨(w'.heap.size + 1), 8, none⟩ = some (lv 4) ∧ (X4.setCell ⟨w.heap.size, 3, none⟩ V5).cell? ⟨L.kb, 5, none⟩ = some (.slice (some ⟨L.p, 0, none⟩) k.pipe.length 3) := by
      constructor
      · rw [World.cell?_of_block (w := X4) (heap_set_ne (Ne.symm BX.out.hl))]; exact SS.1
      · rw [World.cell?_of_block (w := X4) (heap_set_ne (Nat.ne_of_lt hk1))]; exact SS.2
    refine ⟨.inr SS1, ?_⟩
    simp only [Act.put, List.setIfInBounds_toArray, List.set_cons_zero, List.set_cons_succ]
    refine wpAnyS_one 14 rfl (by kernel_rfl) (by rfl) ?_
    refine wp_val (.pointer (some ⟨w'.heap.size, 8, none⟩)) (w' := X4.setCell ⟨w.heap.size, 3, none⟩ V5) (by kernel_rfl) ⟨.inr SS1, ?_⟩
    simp only [Act.put, List.setIfInBounds_toArray, List.set_cons_zero, List.set_cons_succ]
    refine wpAnyS_one 15 rfl (by kernel_rfl) (by rfl) ?_
    have hX3 : (X4.setCell ⟨w.heap.size, 3, none⟩ V5).heap[w'.heap.size]? = _ := (heap_set_ne (Ne.symm BX.out.hm)).trans hX2
    refine wp_store23 (v := o4) (u := ov4 4) rfl rfl rfl hs'.slice (by rw [cell_of hX3]; rfl) (frozen_of hX3) ?_
    refine ⟨.inl (by kernel_rfl), wpAnyS_done (by kernel_rfl) ?_⟩
    simp only [Act.put, List.setIfInBounds_toArray, List.set_cons_zero, List.set_cons_succ]
    have O5 : Hid (Obs B L X k N w.heap.size (w.heap.size + 1) w'.heap.size (w'.heap.size + 1) (.slice mq M nq) ms cf lv ln lg p (ev % 16) a 5 _ _ _) := O4.out.step BX.out (by omega) hk hs' ho
    have C5 : Hid (Chg (fun b => B ≤ b ∧ ¬ X b) w _) := O4.out.chg (out := o4) hk C4.out (Nat.le_refl _) (by omega)
    clear hk hs' ho SS SS1 Z hX1 hX2 hX3 O4 C4
    generalize hW : (X4.setCell ⟨w.heap.size, 3, none⟩ V5).setCell ⟨w'.heap.size, 8, none⟩ o4 = W5 at *
    have O5 : Hid (Obs B L X k N w.heap.size (w.heap.size + 1) w'.heap.size (w'.heap.size + 1) (.slice mq M nq) ms cf lv ln lg p (ev % 16) a 5 W5 V5 _) := O5
    generalize hov : vset ov4 4 o4 = ov5 at O5
    clear hW hov
    go_wp2_with fail
    have Z : W5.cell? ⟨(w'.heap.size + 1), 9, none⟩ = some (lv 5) ∧ W5.cell? ⟨L.kb, 6, none⟩ = some (.slice (some ⟨L.q, 0, none⟩) k.pipe2.length 3) := ⟨O5.out.lbox 5 (by omega), O5.out.kat.f6⟩
    refine wp_region_S (fun W => W.cell? ⟨(w'.heap.size + 1), 9, none⟩ = some (lv 5) ∧ W.cell? ⟨L.kb, 6, none⟩ = some (.slice (some ⟨L.q, 0, none⟩) k.pipe2.length 3)) [2, 3, 4, 5, 6, 7, 11] (by kernel_rfl) ?_
    have SS : W5.drew.cell? ⟨(w'.heap.size + 1), 9, none⟩ = some (lv 5) ∧ W5.drew.cell? ⟨L.kb, 6, none⟩ = some (.slice (some ⟨L.q, 0, none⟩) k.pipe2.length 3) := Z
    refine wpAnyS_take 2 (Value.pointer (some ⟨(w'.heap.size + 1), 9, none⟩)) rfl (by kernel_rfl) (by kernel_rfl) (by kernel_rfl) (by kernel_rfl) (fun _ _ _ h => h) (by rfl) SS (fun _ _ => by kernel_rfl) ?_
    simp only [Act.put, List.setIfInBounds_toArray, List.set_cons_zero, List.set_cons_succ]
    refine wpAnyS_take 3 (lv 5) rfl (by kernel_rfl) (by kernel_rfl) (by kernel_rfl) (by kernel_rfl) (fun _ _ _ h => h) (by rfl) SS (fun _ h => run_load23 rfl rfl (h.1)) ?_
    simp only [Act.put, List.setIfInBounds_toArray, List.set_cons_zero, List.set_cons_succ]
    refine wpAnyS_take 4 (Value.pointer (some ⟨L.kb, 0, none⟩)) rfl (by kernel_rfl) (by kernel_rfl) (by kernel_rfl) (by kernel_rfl) (fun _ _ _ h => h) (by rfl) SS (fun _ _ => rfl) ?_
    simp only [Act.put, List.setIfInBounds_toArray, List.set_cons_zero, List.set_cons_succ]
    refine wpAnyS_take 5 (Value.pointer (some ⟨L.kb, 0, none⟩)) rfl (by kernel_rfl) (by kernel_rfl) (by kernel_rfl) (by kernel_rfl) (fun _ _ _ h => h) (by rfl) SS (fun _ _ => rfl) ?_
    simp only [Act.put, List.setIfInBounds_toArray, List.set_cons_zero, List.set_cons_succ]
    refine wpAnyS_take 6 (Value.pointer (some ⟨L.kb, 6, none⟩)) rfl (by kernel_rfl) (by kernel_rfl) (by kernel_rfl) (by kernel_rfl) (fun _ _ _ h => h) (by rfl) SS (fun _ _ => by kernel_rfl) ?_
    simp only [Act.put, List.setIfInBounds_toArray, List.set_cons_zero, List.set_cons_succ]
    refine wpAnyS_take 7 (Value.slice (some ⟨L.q, 0, none⟩) k.pipe2.length 3) rfl (by kernel_rfl) (by kernel_rfl) (by kernel_rfl) (by kernel_rfl) (fun _ _ _ h => h) (by rfl) SS (fun _ h => run_load23 rfl rfl (h.2)) ?_
    simp only [Act.put, List.setIfInBounds_toArray, List.set_cons_zero, List.set_cons_succ]
    refine wpAnyS_one 0 rfl (by kernel_rfl) (by rfl) ?_
    refine wp_val (.pointer (some ⟨w.heap.size, 3, none⟩)) (w' := W5.drew) (by kernel_rfl) ⟨.inr SS, ?_⟩
    simp only [Act.put, List.setIfInBounds_toArray, List.set_cons_zero, List.set_cons_succ]
    refine wpAnyS_one 1 rfl (by kernel_rfl) (by rfl) ?_
    refine wp_val V5 (w' := W5.drew) (run_load23 rfl rfl O5.out.v3) ⟨.inr SS, ?_⟩
    simp only [Act.put, List.setIfInBounds_toArray, List.set_cons_zero, List.set_cons_succ]
    refine wpAnyS_one 8 rfl (by kernel_rfl) (by rfl) ?_
    refine wp_callF 77 Yapd.func77 rfl (by kernel_rfl) [V5, lv 5, .slice (some ⟨L.q, 0, none⟩) k.pipe2.length 3] rfl rfl (fun v w' => KeepPost W5.drew V5 (lv 5) (fN k 5) (fF k 5) (.returned v) w')
      ((O5.out.keep (by omega) (HS.out 5 (by omega)).2 _).mono fun e w' h => by
        obtain ⟨V', out, rfl, h⟩ := h
        exact ⟨_, rfl, V', out, rfl, h⟩) ?_
    rintro v X5 ⟨V6, o5, e, hk, hs', ho⟩
    obtain rfl : v = .tuple #[V6, o5] := by simpa using e
    clear e SS
    have SS : X5.cell? ⟨(w'.heap.size + 1), 9, none⟩ = some (lv 5) ∧ X5.cell? ⟨L.kb, 6, none⟩ = some (.slice (some ⟨L.q, 0, none⟩) k.pipe2.length 3) := ⟨O5.out.keptCell hk (.inr (.inr (.inr (.inr rfl)))) Z.1, O5.out.keptCell hk (.inl (H.out.sub _ (by simp [Lay.mem, Lay.list]))) Z.2⟩
    refine ⟨.inr SS, ?_⟩
    simp only [Act.put, List.setIfInBounds_toArray, List.set_cons_zero, List.set_cons_succ]
    refine wpAnyS_one 9 rfl (by kernel_rfl) (by rfl) ?_
    refine wp_val (.tuple #[V6, o5]) (w' := X5) (by kernel_rfl) ⟨.inr SS, ?_⟩
    simp only [Act.put, List.setIfInBounds_toArray, List.set_cons_zero, List.set_cons_succ]
    refine wpAnyS_take 11 o5 rfl (by kernel_rfl) (by kernel_rfl) (by kernel_rfl) (by kernel_rfl) (fun _ _ _ h => h) (by rfl) SS (fun _ _ => by kernel_rfl) ?_
    simp only [Act.put, List.setIfInBounds_toArray, List.set_cons_zero, List.set_cons_succ]
    refine wpAnyS_one 10 rfl (by kernel_rfl) (by rfl) ?_
    refine wp_val V6 (w' := X5) (by kernel_rfl) ⟨.inr SS, ?_⟩
    simp only [Act.put, List.setIfInBounds_toArray, List.set_cons_zero, List.set_cons_succ]
    refine wpAnyS_one 12 rfl (by kernel_rfl) (by rfl) ?_
    refine wp_val (.pointer (some ⟨w.heap.size, 3, none⟩)) (w' := X5) (by kernel_rfl) ⟨.inr SS, ?_⟩
    simp only [Act.put, List.setIfInBounds_toArray, List.set_cons_zero, List.set_cons_succ]
    refine wpAnyS_one 13 rfl (by kernel_rfl) (by rfl) ?_
    have hX1 := O5.out.keptHeap hk (.inr (.inl rfl)) O5.out.hbox
    have hX2 := O5.out.keptHeap hk (.inr (.inr (.inr (.inl rfl)))) O5.out.mbox
    refine wp_store23 (v := V6) (u := V5) rfl rfl rfl hk.arena.slice (by rw [cell_of hX1]; rfl) (frozen_of hX1) ?_
    have SS1 : (X5.setCell ⟨w.heap.size, 3, none⟩ V6).cell? ⟨(w'.heap.size + 1), 9, none⟩ = some (lv 5) ∧ (X5.setCell ⟨w.heap.size, 3, none⟩ V6).cell? ⟨L.kb, 6, none⟩ = some (.slice (some ⟨L.q, 0, none⟩) k.pipe2.length 3) := by
      constructor
      · rw [World.cell?_of_block (w := X5) (heap_set_ne (Ne.symm BX.out.hl))]; exact SS.1
      · rw [World.cell?_of_block (w := X5) (heap_set_ne (Nat.ne_of_lt hk1))]; exact SS.2
    refine ⟨.inr SS1, ?_⟩
    simp only [Act.put, List.setIfInBounds_toArray, List.set_cons_zero, List.set_cons_succ]
    refine wpAnyS_one 14 rfl (by kernel_rfl) (by rfl) ?_
    refine wp_val (.pointer (some ⟨w'.heap.size, 9, none⟩)) (w' := X5.setCell ⟨w.heap.size, 3, none⟩ V6) (by kernel_rfl) ⟨.inr SS1, ?_⟩
    simp only [Act.put, List.setIfInBounds_toArray, List.set_cons_zero, List.set_cons_succ]
    refine wpAnyS_one 15 rfl (by kernel_rfl) (by rfl) ?_
    have hX3 : (X5.setCell ⟨w.heap.size, 3, none⟩ V6).heap[w'.heap.size]? = _ := (heap_set_ne (Ne.symm BX.out.hm)).trans hX2
    refine wp_store23 (v := o5) (u := ov5 5) rfl rfl rfl hs'.slice (by rw [cell_of hX3]; rfl) (frozen_of hX3) ?_
    refine ⟨.inl (by kernel_rfl), wpAnyS_done (by kernel_rfl) ?_⟩
    simp only [Act.put, List.setIfInBounds_toArray, List.set_cons_zero, List.set_cons_succ]
    have O6 : Hid (Obs B L X k N w.heap.size (w.heap.size + 1) w'.heap.size (w'.heap.size + 1) (.slice mq M nq) ms cf lv ln lg p (ev % 16) a 6 _ _ _) := O5.out.step BX.out (by omega) hk hs' ho
    have C6 : Hid (Chg (fun b => B ≤ b ∧ ¬ X b) w _) := O5.out.chg (out := o5) hk C5.out (Nat.le_refl _) (by omega)
    clear hk hs' ho SS SS1 Z hX1 hX2 hX3 O5 C5
    generalize hW : (X5.setCell ⟨w.heap.size, 3, none⟩ V6).setCell ⟨w'.heap.size, 9, none⟩ o5 = W6 at *
    have O6 : Hid (Obs B L X k N w.heap.size (w.heap.size + 1) w'.heap.size (w'.heap.size + 1) (.slice mq M nq) ms cf lv ln lg p (ev % 16) a 6 W6 V6 _) := O6
    generalize hov : vset ov5 5 o5 = ov6 at O6
    clear hW hov
    obtain ⟨a0, m0, c0, l0⟩ := (O6.out.osl 0 (by omega)).sls.slice
    obtain ⟨a1, m1, c1, l1⟩ := (O6.out.osl 1 (by omega)).sls.slice
    obtain ⟨a2, m2, c2, l2⟩ := (O6.out.osl 2 (by omega)).sls.slice
    obtain ⟨a3, m3, c3, l3⟩ := (O6.out.osl 3 (by omega)).sls.slice
    obtain ⟨a4, m4, c4, l4⟩ := (O6.out.osl 4 (by omega)).sls.slice
    obtain ⟨a5, m5, c5, l5⟩ := (O6.out.osl 5 (by omega)).sls.slice
    obtain ⟨qa, qm, qc, rfl⟩ := O6.out.arena.slice
    have hb2 := O6.out.hbm
    have d0 : W6.cell? ⟨w'.heap.size, 0, none⟩ = some (.int .i64 p) := by rw [cell_of O6.out.mbox]; rfl
    have d1 : W6.cell? ⟨w'.heap.size, 1, none⟩ = some (.int .i64 (ev % 16)) := by rw [cell_of O6.out.mbox]; rfl
    have d2 : W6.cell? ⟨w'.heap.size, 2, none⟩ = some (.int .i64 a) := by rw [cell_of O6.out.mbox]; rfl
    have d3 : W6.cell? ⟨w'.heap.size, 3, none⟩ = some (.bool true) := by rw [cell_of O6.out.mbox]; rfl
    have d4 : W6.cell? ⟨w'.heap.size, 4, none⟩ = some (.slice a0 m0 c0) := by rw [cell_of O6.out.mbox, ← l0]; rfl
    have d5 : W6.cell? ⟨w'.heap.size, 5, none⟩ = some (.slice a1 m1 c1) := by rw [cell_of O6.out.mbox, ← l1]; rfl
    have d6 : W6.cell? ⟨w'.heap.size, 6, none⟩ = some (.slice a2 m2 c2) := by rw [cell_of O6.out.mbox, ← l2]; rfl
    have d7 : W6.cell? ⟨w'.heap.size, 7, none⟩ = some (.slice a3 m3 c3) := by rw [cell_of O6.out.mbox, ← l3]; rfl
    have d8 : W6.cell? ⟨w'.heap.size, 8, none⟩ = some (.slice a4 m4 c4) := by rw [cell_of O6.out.mbox, ← l4]; rfl
    have d9 : W6.cell? ⟨w'.heap.size, 9, none⟩ = some (.slice a5 m5 c5) := by rw [cell_of O6.out.mbox, ← l5]; rfl
    have HCS : Hid ([.int .i64 p, .int .i64 (ev % 16), .int .i64 a, .bool true, .slice a0 m0 c0, .slice a1 m1 c1, .slice a2 m2 c2, .slice a3 m3 c3, .slice a4 m4 c4, .slice a5 m5 c5] = [.int .i64 p, .int .i64 (ev % 16), .int .i64 a, .bool true, ov6 0, ov6 1, ov6 2, ov6 3, ov6 4, ov6 5]) := by rw [l0, l1, l2, l3, l4, l5]; rfl
    clear l0 l1 l2 l3 l4 l5
    have hsz : (w'.heap.size + 1) < W6.heap.size := cell_lt (O6.out.lbox 0 (by omega))
    have hsz1 : w'.heap.size < W6.heap.size := by omega
    have hsz2 : w.heap.size < W6.heap.size := by omega
    have hsz3 : (w.heap.size + 1) < W6.heap.size := by omega
    obtain ⟨i0, hi, hz0, hz1, hz2⟩ := info_parts (P := Yapd.prog) (e := 56) (z := .agg #[.int .i64 0, .int .i64 0, .int .i64 0, .bool false, .slice none 0 0, .slice none 0 0, .slice none 0 0, .slice none 0 0, .slice none 0 0, .slice none 0 0]) (size := 10) (bytes := 176) (by kernel_rfl)
    have HOWN : Hid ((W6.alloc (.cells [.int .i64 p, .int .i64 (ev % 16), .int .i64 a, .bool true, .slice a0 m0 c0, .slice a1 m1 c1, .slice a2 m2 c2, .slice a3 m3 c3, .slice a4 m4 c4, .slice a5 m5 c5].toArray 56)).ownsRow B 56 10 (.slice mq M nq) M ((List.range M).flatMap cf)) := by
      have := O6.out.hist.own
      rw [HM.out] at this
      exact ownsRow_of_block this fun g _ hlt => Below.heap_alloc _ _ _ hlt
    have HNEW : Hid (∀ j u, ([.int .i64 p, .int .i64 (ev % 16), .int .i64 a, .bool true, .slice a0 m0 c0, .slice a1 m1 c1, .slice a2 m2 c2, .slice a3 m3 c3, .slice a4 m4 c4, .slice a5 m5 c5] : List Value)[j]? = some u → (W6.alloc (.cells [.int .i64 p, .int .i64 (ev % 16), .int .i64 a, .bool true, .slice a0 m0 c0, .slice a1 m1 c1, .slice a2 m2 c2, .slice a3 m3 c3, .slice a4 m4 c4, .slice a5 m5 c5].toArray 56)).cell? ((⟨W6.heap.size, 0, none⟩ : Addr).add j) = some u) := fun j u hj => by
      rw [Addr.add_mid, cell_of (heap_alloc_new' _ _), Nat.zero_add]
      simpa using hj
    have HONE : Hid (∀ u ∈ ([.int .i64 p, .int .i64 (ev % 16), .int .i64 a, .bool true, .slice a0 m0 c0, .slice a1 m1 c1, .slice a2 m2 c2, .slice a3 m3 c3, .slice a4 m4 c4, .slice a5 m5 c5] : List Value), u.oneCell' = true) := by
      intro u hu
      simp only [List.mem_cons, List.not_mem_nil, or_false] at hu
      rcases hu with rfl | rfl | rfl | rfl | rfl | rfl | rfl | rfl | rfl | rfl <;> rfl
    have HBW : Hid (B ≤ W6.heap.size) := O6.out.hB
    go_wp2_with (at_builtin; go_loud (refine wpList_append_lies _ rfl _ _ 30 rfl B 56 i0 _ 10 176 Yapd.underlying30 hi hz0 hz1 hz2 rfl (by decide) (.slice mq M nq) M ((List.range M).flatMap cf) rfl HOWN.out ⟨W6.heap.size, 0, none⟩ 1 1 [.int .i64 p, .int .i64 (ev % 16), .int .i64 a, .bool true, .slice a0 m0 c0, .slice a1 m1 c1, .slice a2 m2 c2, .slice a3 m3 c3, .slice a4 m4 c4, .slice a5 m5 c5] rfl rfl HNEW.out HONE.out (by decide) (by unfold maxLen; omega) (by omega) (by have := HBW.out; simp; omega) (W6.heap.size + 1) (by simp) ?_); intro g cap w1 hown hgrow hat hlt; have h0 := (O6.out.grown hgrow).1; have hrx := (O6.out.grown hgrow).2; have HG : Hid (((W6.alloc (.cells [.int .i64 p, .int .i64 (ev % 16), .int .i64 a, .bool true, .slice a0 m0 c0, .slice a1 m1 c1, .slice a2 m2 c2, .slice a3 m3 c3, .slice a4 m4 c4, .slice a5 m5 c5].toArray 56)).grownBy w1 (Value.slice mq M nq).ownBlock) ∧ ((Value.slice mq M nq).ownBlock = some g ∨ g = W6.heap.size + 1)) := ⟨hgrow, hat⟩; have HW : Hid (w1.ownsRow B 56 10 (.slice (some ⟨g, 0, none⟩) (M + 1) cap) (M + 1) ((List.range M).flatMap cf ++ [.int .i64 p, .int .i64 (ev % 16), .int .i64 a, .bool true, .slice a0 m0 c0, .slice a1 m1 c1, .slice a2 m2 c2, .slice a3 m3 c3, .slice a4 m4 c4, .slice a5 m5 c5])) := hown; have hsw : (w.heap.size + 1) < w1.heap.size := Nat.lt_of_lt_of_le hsz3 (by have := hgrow.size; simp at this; omega); have hsw0 : w.heap.size < w1.heap.size := (by omega); have HB0 : Hid (w1.heap[w.heap.size]? = some (.cells #[.int .i64 (N : Int), .bool true, .slice mq M nq, .slice qa qm qc] 32 (0, 0))) := h0; have HR : Hid (Boxed (w.heap.size + 1) 4 w1) := hrx; have g0 : w1.cell? ⟨w.heap.size, 0, none⟩ = some (.int .i64 (N : Int)) := (by rw [cell_of h0]; rfl); have g1 : w1.cell? ⟨w.heap.size, 1, none⟩ = some (.bool true) := (by rw [cell_of h0]; rfl); have g2 : w1.cell? ⟨w.heap.size, 2, none⟩ = some (.slice mq M nq) := (by rw [cell_of h0]; rfl); have g3 : w1.cell? ⟨w.heap.size, 3, none⟩ = some (.slice qa qm qc) := (by rw [cell_of h0]; rfl); have gf : w1.frozen? ⟨w.heap.size, 2, none⟩ = false := frozen_of h0; have r0 := hrx.cell (i := 0) (by omega); have r1 := hrx.cell (i := 1) (by omega); have r2 := hrx.cell (i := 2) (by omega); have r3 := hrx.cell (i := 3) (by omega); have s0 := hrx.fz (i := 0); have s1 := hrx.fz (i := 1); have s2 := hrx.fz (i := 2); have s3 := hrx.fz (i := 3); clear h0 hrx hown hgrow hat hlt)
    have hrg : ((w1.setCell ⟨w.heap.size, 2, none⟩ (.slice (some ⟨g, 0, none⟩) (M + 1) cap)).setCells (w.heap.size + 1) 0 [.int .i64 (N : Int), .bool true, .slice (some ⟨g, 0, none⟩) (M + 1) cap, .slice qa qm qc]).rangeAt (w.heap.size + 1) 0 [.int .i64 (N : Int), .bool true, .slice (some ⟨g, 0, none⟩) (M + 1) cap, .slice qa qm qc] :=
      World.rangeAt_setCells_same _ _ _ _ fun j hj => ⟨by rw [Nat.zero_add, (HR.out.set _).cell hj]; rfl, by rw [Nat.zero_add]; exact (HR.out.set _).fz⟩
    refine bodyPost_ret (results_box Yapd.results62 rfl hrg Yapd.underlying32 rfl (by kernel_rfl)) rfl ?_
    obtain rfl : ms.length = M := HM.out
    have C7 : Chg (fun b => b = w.heap.size ∨ b = (w.heap.size + 1)) w1 ((w1.setCell ⟨w.heap.size, 2, none⟩ (.slice (some ⟨g, 0, none⟩) (ms.length + 1) cap)).setCells (w.heap.size + 1) 0 [.int .i64 (N : Int), .bool true, .slice (some ⟨g, 0, none⟩) (ms.length + 1) cap, .slice qa qm qc]) := Chg.setCells (.inl (.inr rfl)) _ _ _ ((Chg.refl _ _).setCell (.inl (.inl rfl)) _)
    exact ⟨_, _, _, rfl, O6.out.fin BX.out HNK.out C6.out H.out.hB HCS.out HW.out HG.out.1 HG.out.2 (Nat.le_refl _) (by omega) C7⟩
end Go.Proofs.Ygdapg
