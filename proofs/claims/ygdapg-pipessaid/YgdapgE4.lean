/-
  clone, Result, WALKED.
-/
import Derived.Test.YgdapgE3
import Derived.Test.YgdapgOrd
import Derived.Deep.MidRow
set_option linter.unusedSimpArgs false
set_option linter.unusedVariables false
namespace Go.Proofs.Ygdapg
open Go.RowKit

theorem chg_cell {w w1 : World} (h : Chg No w w1) {b i : Nat} {v : Value} (hc : w.cell? ⟨b, i, none⟩ = some v) : w1.cell? ⟨b, i, none⟩ = some v := by
  rw [h.cell (p := ⟨b, i, none⟩) (cell_lt hc) (fun h => h)]; exact hc

set_option maxHeartbeats 400000 in
theorem clone_any (w : World) (b n c : Nat) (f : Nat → Int) (hn : n ≤ 4096) (HC : Hid (∀ i, i < n → w.cell? ⟨b, i, none⟩ = some (.int .i64 (f i)))) :
    Calls Yapd.prog 56 #[.slice (some ⟨b, 0, none⟩) n c] w fun e w' => e = .returned (.slice (some ⟨w.heap.size, 0, none⟩) n n) ∧ w'.heap[w.heap.size]? = some (.cells (arr n f) 3 (0, 0)) ∧ Chg No w w' := by
  have hmk := make_ints w n n (Nat.le_refl _) hn
  go_enter Yapd.func56, Yapd.ntmps56
  go_wp2_with fail
  have hsz : (w.alloc (Obj.cells (arr n fun _ => 0) 3)).heap[w.heap.size]? = some (.cells (arr n fun _ => 0) 3 (0, 0)) := by show (w.heap.push _)[w.heap.size]? = _; simp
  have hcp := run_copy_cells (P := Yapd.prog) (w.alloc (Obj.cells (arr n fun _ => 0) 3)) 23 23 3 3 w.heap.size 0 n n ⟨b, 0, none⟩ n c ((List.range n).map fun i => Value.int .i64 (f i)) Yapd.underlying23 (by kernel_rfl)
    (by simp [Nat.min_def])
    (fun j v hj => by
      have hjl : j < n := by
        rcases Nat.lt_or_ge j n with h | h
        · exact h
        · simp [h] at hj
      have e1 : (⟨b, 0, none⟩ : Addr).add j = ⟨b, j, none⟩ := by unfold Addr.add; split <;> simp_all
      have hcell := HC.out j hjl
      rw [e1, ((Chg.refl No w).alloc _).cell (p := ⟨b, j, none⟩) (cell_lt hcell) (fun h => h), hcell]
      simp [hjl] at hj
      rw [hj])
    (fun j hj => by
      have hjl : j < n := by simpa using hj
      rw [cell_of hsz, Nat.zero_add, arr_get _ hjl]; rfl)
    (fun j hj => frozen_of hsz)
    (fun v hv => by
      obtain ⟨m, -, rfl⟩ := List.mem_map.1 hv
      rfl)
  rw [hcp]
  obtain ⟨cs, g1, g2, g3, g4, g5⟩ := heap_setCells ((List.range n).map fun i => Value.int .i64 (f i)) 0 _ _ hsz
  have e : cs = arr n f := by
    apply Array.ext_getElem?
    intro j
    rcases Nat.lt_or_ge j n with h | h
    · have := g5 j (by simpa using h) (by rw [arr_size]; omega)
      rw [Nat.zero_add] at this
      rw [this, arr_get _ h]; simp [h]
    · rw [Array.getElem?_eq_none (by rw [g2, arr_size]; exact h), Array.getElem?_eq_none (by rw [arr_size]; exact h)]
  rw [e] at g1
  have HG : Hid (((w.alloc (Obj.cells (arr n fun _ => 0) 3)).setCells w.heap.size 0 ((List.range n).map fun i => Value.int .i64 (f i))).heap[w.heap.size]? = some (.cells (arr n f) 3 (0, 0))) := g1
  have HCh : Hid (Chg No w ((w.alloc (Obj.cells (arr n fun _ => 0) 3)).setCells w.heap.size 0 ((List.range n).map fun i => Value.int .i64 (f i)))) := Chg.setCells (.inr (Nat.le_refl _)) _ _ _ ((Chg.refl _ _).alloc _)
  clear hcp g1 g2 g3 g4 g5 e hsz hmk
  generalize (w.alloc (Obj.cells (arr n fun _ => 0) 3)).setCells w.heap.size 0 ((List.range n).map fun i => Value.int .i64 (f i)) = W at *
  go_wp2_with fail
  go_ret
  exact ⟨rfl, HG.out, HCh.out⟩

/-- The numbers in block b, as the world holds them. -/
def rd (w : World) (b : Nat) (i : Nat) : Int := match w.cell? ⟨b, i, none⟩ with | some (.int _ z) => z | _ => 0

theorem clone_rd (w : World) (b n c : Nat) (hn : n ≤ 4096) (hc : ∀ i, i < n → ∃ z, w.cell? ⟨b, i, none⟩ = some (.int .i64 z)) :
    Calls Yapd.prog 56 #[.slice (some ⟨b, 0, none⟩) n c] w fun e w' => e = .returned (.slice (some ⟨w.heap.size, 0, none⟩) n n) ∧ (w'.heap[w.heap.size]? = some (.cells (arr n (rd w b)) 3 (0, 0)) ∧ Chg No w w') :=
  clone_any w b n c (rd w b) hn fun i hi => by
    obtain ⟨z, hz⟩ := hc i hi
    rw [hz]; simp [rd, hz]

theorem KAt.rowsOf {w : World} {L : Lay} {k : KS} (h : KAt w L k) :
    (k.n ≤ 4096 ∧ k.pipe.length ≤ 4096 ∧ k.pipe2.length ≤ 4096 ∧ k.trace.length ≤ 4096) ∧
    (∀ i, i < k.n → ∃ z, w.cell? ⟨L.s, i, none⟩ = some (.int .i64 z)) ∧ (∀ i, i < k.n → ∃ z, w.cell? ⟨L.a, i, none⟩ = some (.int .i64 z)) ∧ (∀ i, i < k.n → ∃ z, w.cell? ⟨L.u, i, none⟩ = some (.int .i64 z)) ∧
    (∀ i, i < k.pipe.length → ∃ z, w.cell? ⟨L.p, i, none⟩ = some (.int .i64 z)) ∧ (∀ i, i < k.pipe2.length → ∃ z, w.cell? ⟨L.q, i, none⟩ = some (.int .i64 z)) ∧ (∀ i, i < k.trace.length → ∃ z, w.cell? ⟨L.t, i, none⟩ = some (.int .i64 z)) := by
  have h1 := h.hn
  have h2 := h.hp
  have h3 := h.hq
  have h4 := h.ht
  exact ⟨⟨by omega, by omega, by omega, by omega⟩, fun i hi => ⟨_, h.cs hi⟩, fun i hi => ⟨_, h.ca hi⟩, fun i hi => ⟨_, h.cu hi⟩, fun i hi => ⟨_, h.p.cell hi⟩, fun i hi => ⟨_, h.q.cell hi⟩, fun i hi => ⟨_, h.t.cell hi⟩⟩

/-- The kernel lies there; the block rb has n cells that may be written. -/
def ResS (L : Lay) (k : KS) (w : World) : Prop := KAt w L k
def Boxed (rb n : Nat) (w : World) : Prop := ∃ cs e, w.heap[rb]? = some (.cells cs e (0, 0)) ∧ cs.size = n
def oldv (rb : Nat) (w : World) (i : Nat) : Value := (w.cell? ⟨rb, i, none⟩).getD undef
theorem Boxed.cell {rb n i : Nat} {w : World} (h : Boxed rb n w) (hi : i < n) : w.cell? ⟨rb, i, none⟩ = some (oldv rb w i) := by
  obtain ⟨cs, e, h1, h2⟩ := h
  unfold oldv
  rw [cell_of h1]
  simp [h2, hi]
theorem Boxed.fz {rb n i : Nat} {w : World} (h : Boxed rb n w) : w.frozen? ⟨rb, i, none⟩ = false := by
  obtain ⟨cs, e, h1, h2⟩ := h
  exact frozen_of h1
theorem Boxed.set {rb n b i : Nat} {w : World} (h : Boxed rb n w) (v : Value) : Boxed rb n (w.setCell ⟨b, i, none⟩ v) := by
  obtain ⟨cs, e, h1, h2⟩ := h
  by_cases hb : rb = b
  · subst hb; exact ⟨_, e, heap_set_same h1, by simpa using h2⟩
  · exact ⟨cs, e, by rw [heap_set_ne hb]; exact h1, h2⟩
theorem Boxed.drew {rb n : Nat} {w : World} (h : Boxed rb n w) : Boxed rb n w.drew := h
theorem Boxed.chg {rb n : Nat} {w w' : World} {S : Nat → Prop} (h : Boxed rb n w) (hc : Chg S w w') (hs : ¬ S rb) : Boxed rb n w' := by
  obtain ⟨cs, e, h1, h2⟩ := h
  exact ⟨cs, e, by rw [hc.block rb (heap_lt h1) hs]; exact h1, h2⟩
theorem KAt.setOther {w : World} {L : Lay} {k : KS} (h : KAt w L k) {b i : Nat} (hb : ¬ L.mem b) (v : Value) : KAt (w.setCell ⟨b, i, none⟩ v) L k :=
  h.of_heap fun x hx => heap_set_ne (fun e => hb (e ▸ hx))

theorem Boxed.new (w : World) (cs : Array Value) (e : TypeId) : Boxed w.heap.size cs.size (w.alloc (.cells cs e)) := ⟨cs, e, by show (w.heap.push _)[w.heap.size]? = _; simp, rfl⟩
set_option maxRecDepth 100000 in
set_option maxHeartbeats 4000000 in
theorem result_any (w : World) (L : Lay) (k : KS) (H : Hid (KAt w L k)) :
    Calls Yapd.prog 39 #[.pointer (some ⟨L.kb, 0, none⟩)] w fun e w' => ∃ b1 b2 b3 b4 b5 b6 : Nat,
      e = .returned (.agg #[.bool false, .slice (some ⟨b1, 0, none⟩) k.n k.n, .slice (some ⟨b2, 0, none⟩) k.n k.n, .slice (some ⟨b3, 0, none⟩) k.n k.n, .slice (some ⟨b4, 0, none⟩) k.pipe.length k.pipe.length,
        .slice (some ⟨b5, 0, none⟩) k.pipe2.length k.pipe2.length, .slice (some ⟨b6, 0, none⟩) k.trace.length k.trace.length, .int .i64 k.ticks]) ∧
      w'.heap[b1]? = some (.cells (arr k.n k.st) 3 (0, 0)) ∧ w'.heap[b6]? = some (.cells (arr k.trace.length fun i => k.trace.getD i 0) 3 (0, 0)) ∧ (w.heap.size ≤ b1 ∧ w.heap.size ≤ b6) ∧ Chg No w w' := by
  go_enter Yapd.func39, Yapd.ntmps39
  go_wp2_with fail
  refine wp_region_S (ResS L k) [0, 1, 2, 3, 5, 6, 7, 8, 10, 11, 12, 13, 15, 16, 17, 18, 20, 21, 22, 23, 25, 26, 27, 28, 30, 31, 32, 33] (by kernel_rfl) ?_
  have HS : ResS L k ((w.alloc (.cells #[.bool false, .slice none 0 0, .slice none 0 0, .slice none 0 0, .slice none 0 0, .slice none 0 0, .slice none 0 0, .int .i64 0] 25))).drew := (H.out.alloc _).drew
  have HB : Boxed w.heap.size 8 ((w.alloc (.cells #[.bool false, .slice none 0 0, .slice none 0 0, .slice none 0 0, .slice none 0 0, .slice none 0 0, .slice none 0 0, .int .i64 0] 25))).drew := Boxed.new w _ 25
  have HC : Hid (Chg No w ((w.alloc (.cells #[.bool false, .slice none 0 0, .slice none 0 0, .slice none 0 0, .slice none 0 0, .slice none 0 0, .slice none 0 0, .int .i64 0] 25))).drew) := ((Chg.refl _ _).alloc _).drew
  generalize ((w.alloc (.cells #[.bool false, .slice none 0 0, .slice none 0 0, .slice none 0 0, .slice none 0 0, .slice none 0 0, .slice none 0 0, .int .i64 0] 25))).drew = W at *
  refine wpAnyS_take 0 (Value.pointer (some ⟨L.kb, 0, none⟩)) rfl (by kernel_rfl) (by kernel_rfl) (by kernel_rfl) (by kernel_rfl) (fun _ _ _ h => h) (by rfl) HS (fun _ _ => rfl) ?_
  simp only [Act.put, List.setIfInBounds_toArray, List.set_cons_zero, List.set_cons_succ]
  refine wpAnyS_take 1 (Value.pointer (some ⟨L.kb, 0, none⟩)) rfl (by kernel_rfl) (by kernel_rfl) (by kernel_rfl) (by kernel_rfl) (fun _ _ _ h => h) (by rfl) HS (fun _ _ => rfl) ?_
  simp only [Act.put, List.setIfInBounds_toArray, List.set_cons_zero, List.set_cons_succ]
  refine wpAnyS_take 2 (Value.pointer (some ⟨L.kb, 0, none⟩)) rfl (by kernel_rfl) (by kernel_rfl) (by kernel_rfl) (by kernel_rfl) (fun _ _ _ h => h) (by rfl) HS (fun _ _ => by kernel_rfl) ?_
  simp only [Act.put, List.setIfInBounds_toArray, List.set_cons_zero, List.set_cons_succ]
  refine wpAnyS_take 3 (Value.slice (some ⟨L.s, 0, none⟩) k.n k.n) rfl (by kernel_rfl) (by kernel_rfl) (by kernel_rfl) (by kernel_rfl) (fun _ _ _ h => h) (by rfl) HS (fun _ h => run_load23 rfl rfl (KAt.f0 h)) ?_
  simp only [Act.put, List.setIfInBounds_toArray, List.set_cons_zero, List.set_cons_succ]
  refine wpAnyS_take 5 (Value.pointer (some ⟨L.kb, 0, none⟩)) rfl (by kernel_rfl) (by kernel_rfl) (by kernel_rfl) (by kernel_rfl) (fun _ _ _ h => h) (by rfl) HS (fun _ _ => rfl) ?_
  simp only [Act.put, List.setIfInBounds_toArray, List.set_cons_zero, List.set_cons_succ]
  refine wpAnyS_take 6 (Value.pointer (some ⟨L.kb, 0, none⟩)) rfl (by kernel_rfl) (by kernel_rfl) (by kernel_rfl) (by kernel_rfl) (fun _ _ _ h => h) (by rfl) HS (fun _ _ => rfl) ?_
  simp only [Act.put, List.setIfInBounds_toArray, List.set_cons_zero, List.set_cons_succ]
  refine wpAnyS_take 7 (Value.pointer (some ⟨L.kb, 2, none⟩)) rfl (by kernel_rfl) (by kernel_rfl) (by kernel_rfl) (by kernel_rfl) (fun _ _ _ h => h) (by rfl) HS (fun _ _ => by kernel_rfl) ?_
  simp only [Act.put, List.setIfInBounds_toArray, List.set_cons_zero, List.set_cons_succ]
  refine wpAnyS_take 8 (Value.slice (some ⟨L.a, 0, none⟩) k.n k.n) rfl (by kernel_rfl) (by kernel_rfl) (by kernel_rfl) (by kernel_rfl) (fun _ _ _ h => h) (by rfl) HS (fun _ h => run_load23 rfl rfl (KAt.f2 h)) ?_
  simp only [Act.put, List.setIfInBounds_toArray, List.set_cons_zero, List.set_cons_succ]
  refine wpAnyS_take 10 (Value.pointer (some ⟨L.kb, 0, none⟩)) rfl (by kernel_rfl) (by kernel_rfl) (by kernel_rfl) (by kernel_rfl) (fun _ _ _ h => h) (by rfl) HS (fun _ _ => rfl) ?_
  simp only [Act.put, List.setIfInBounds_toArray, List.set_cons_zero, List.set_cons_succ]
  refine wpAnyS_take 11 (Value.pointer (some ⟨L.kb, 0, none⟩)) rfl (by kernel_rfl) (by kernel_rfl) (by kernel_rfl) (by kernel_rfl) (fun _ _ _ h => h) (by rfl) HS (fun _ _ => rfl) ?_
  simp only [Act.put, List.setIfInBounds_toArray, List.set_cons_zero, List.set_cons_succ]
  refine wpAnyS_take 12 (Value.pointer (some ⟨L.kb, 4, none⟩)) rfl (by kernel_rfl) (by kernel_rfl) (by kernel_rfl) (by kernel_rfl) (fun _ _ _ h => h) (by rfl) HS (fun _ _ => by kernel_rfl) ?_
  simp only [Act.put, List.setIfInBounds_toArray, List.set_cons_zero, List.set_cons_succ]
  refine wpAnyS_take 13 (Value.slice (some ⟨L.u, 0, none⟩) k.n k.n) rfl (by kernel_rfl) (by kernel_rfl) (by kernel_rfl) (by kernel_rfl) (fun _ _ _ h => h) (by rfl) HS (fun _ h => run_load23 rfl rfl (KAt.f4 h)) ?_
  simp only [Act.put, List.setIfInBounds_toArray, List.set_cons_zero, List.set_cons_succ]
  refine wpAnyS_take 15 (Value.pointer (some ⟨L.kb, 0, none⟩)) rfl (by kernel_rfl) (by kernel_rfl) (by kernel_rfl) (by kernel_rfl) (fun _ _ _ h => h) (by rfl) HS (fun _ _ => rfl) ?_
  simp only [Act.put, List.setIfInBounds_toArray, List.set_cons_zero, List.set_cons_succ]
  refine wpAnyS_take 16 (Value.pointer (some ⟨L.kb, 0, none⟩)) rfl (by kernel_rfl) (by kernel_rfl) (by kernel_rfl) (by kernel_rfl) (fun _ _ _ h => h) (by rfl) HS (fun _ _ => rfl) ?_
  simp only [Act.put, List.setIfInBounds_toArray, List.set_cons_zero, List.set_cons_succ]
  refine wpAnyS_take 17 (Value.pointer (some ⟨L.kb, 5, none⟩)) rfl (by kernel_rfl) (by kernel_rfl) (by kernel_rfl) (by kernel_rfl) (fun _ _ _ h => h) (by rfl) HS (fun _ _ => by kernel_rfl) ?_
  simp only [Act.put, List.setIfInBounds_toArray, List.set_cons_zero, List.set_cons_succ]
  refine wpAnyS_take 18 (Value.slice (some ⟨L.p, 0, none⟩) k.pipe.length (3)) rfl (by kernel_rfl) (by kernel_rfl) (by kernel_rfl) (by kernel_rfl) (fun _ _ _ h => h) (by rfl) HS (fun _ h => run_load23 rfl rfl (KAt.f5 h)) ?_
  simp only [Act.put, List.setIfInBounds_toArray, List.set_cons_zero, List.set_cons_succ]
  refine wpAnyS_take 20 (Value.pointer (some ⟨L.kb, 0, none⟩)) rfl (by kernel_rfl) (by kernel_rfl) (by kernel_rfl) (by kernel_rfl) (fun _ _ _ h => h) (by rfl) HS (fun _ _ => rfl) ?_
  simp only [Act.put, List.setIfInBounds_toArray, List.set_cons_zero, List.set_cons_succ]
  refine wpAnyS_take 21 (Value.pointer (some ⟨L.kb, 0, none⟩)) rfl (by kernel_rfl) (by kernel_rfl) (by kernel_rfl) (by kernel_rfl) (fun _ _ _ h => h) (by rfl) HS (fun _ _ => rfl) ?_
  simp only [Act.put, List.setIfInBounds_toArray, List.set_cons_zero, List.set_cons_succ]
  refine wpAnyS_take 22 (Value.pointer (some ⟨L.kb, 6, none⟩)) rfl (by kernel_rfl) (by kernel_rfl) (by kernel_rfl) (by kernel_rfl) (fun _ _ _ h => h) (by rfl) HS (fun _ _ => by kernel_rfl) ?_
  simp only [Act.put, List.setIfInBounds_toArray, List.set_cons_zero, List.set_cons_succ]
  refine wpAnyS_take 23 (Value.slice (some ⟨L.q, 0, none⟩) k.pipe2.length (3)) rfl (by kernel_rfl) (by kernel_rfl) (by kernel_rfl) (by kernel_rfl) (fun _ _ _ h => h) (by rfl) HS (fun _ h => run_load23 rfl rfl (KAt.f6 h)) ?_
  simp only [Act.put, List.setIfInBounds_toArray, List.set_cons_zero, List.set_cons_succ]
  refine wpAnyS_take 25 (Value.pointer (some ⟨L.kb, 0, none⟩)) rfl (by kernel_rfl) (by kernel_rfl) (by kernel_rfl) (by kernel_rfl) (fun _ _ _ h => h) (by rfl) HS (fun _ _ => rfl) ?_
  simp only [Act.put, List.setIfInBounds_toArray, List.set_cons_zero, List.set_cons_succ]
  refine wpAnyS_take 26 (Value.pointer (some ⟨L.kb, 0, none⟩)) rfl (by kernel_rfl) (by kernel_rfl) (by kernel_rfl) (by kernel_rfl) (fun _ _ _ h => h) (by rfl) HS (fun _ _ => rfl) ?_
  simp only [Act.put, List.setIfInBounds_toArray, List.set_cons_zero, List.set_cons_succ]
  refine wpAnyS_take 27 (Value.pointer (some ⟨L.kb, 9, none⟩)) rfl (by kernel_rfl) (by kernel_rfl) (by kernel_rfl) (by kernel_rfl) (fun _ _ _ h => h) (by rfl) HS (fun _ _ => by kernel_rfl) ?_
  simp only [Act.put, List.setIfInBounds_toArray, List.set_cons_zero, List.set_cons_succ]
  refine wpAnyS_take 28 (Value.slice (some ⟨L.t, 0, none⟩) k.trace.length (256)) rfl (by kernel_rfl) (by kernel_rfl) (by kernel_rfl) (by kernel_rfl) (fun _ _ _ h => h) (by rfl) HS (fun _ h => run_load23 rfl rfl (KAt.f9 h)) ?_
  simp only [Act.put, List.setIfInBounds_toArray, List.set_cons_zero, List.set_cons_succ]
  refine wpAnyS_take 30 (Value.pointer (some ⟨L.kb, 0, none⟩)) rfl (by kernel_rfl) (by kernel_rfl) (by kernel_rfl) (by kernel_rfl) (fun _ _ _ h => h) (by rfl) HS (fun _ _ => rfl) ?_
  simp only [Act.put, List.setIfInBounds_toArray, List.set_cons_zero, List.set_cons_succ]
  refine wpAnyS_take 31 (Value.pointer (some ⟨L.kb, 0, none⟩)) rfl (by kernel_rfl) (by kernel_rfl) (by kernel_rfl) (by kernel_rfl) (fun _ _ _ h => h) (by rfl) HS (fun _ _ => rfl) ?_
  simp only [Act.put, List.setIfInBounds_toArray, List.set_cons_zero, List.set_cons_succ]
  refine wpAnyS_take 32 (Value.pointer (some ⟨L.kb, 8, none⟩)) rfl (by kernel_rfl) (by kernel_rfl) (by kernel_rfl) (by kernel_rfl) (fun _ _ _ h => h) (by rfl) HS (fun _ _ => by kernel_rfl) ?_
  simp only [Act.put, List.setIfInBounds_toArray, List.set_cons_zero, List.set_cons_succ]
  refine wpAnyS_take 33 (Value.int .i64 k.ticks) rfl (by kernel_rfl) (by kernel_rfl) (by kernel_rfl) (by kernel_rfl) (fun _ _ _ h => h) (by rfl) HS (fun _ h => run_load3 rfl rfl (KAt.f8 h)) ?_
  simp only [Act.put, List.setIfInBounds_toArray, List.set_cons_zero, List.set_cons_succ]
  have hr := KAt.rowsOf HS
  refine wpAnyS_one 4 rfl (by kernel_rfl) (by rfl) ?_
  refine wp_callF 56 Yapd.func56 rfl (by kernel_rfl) [.slice (some ⟨L.s, 0, none⟩) k.n k.n] rfl rfl (fun v w' => v = .slice (some ⟨(W).heap.size, 0, none⟩) k.n k.n ∧ w'.heap[(W).heap.size]? = some (.cells (arr (k.n) (rd W L.s)) 3 (0, 0)) ∧ Chg No W w')
    ((clone_rd _ _ _ _ hr.1.1 hr.2.1).mono fun e w' h => ⟨_, h.1, rfl, h.2⟩) ?_
  rintro _ w1 ⟨rfl, G1, C1⟩
  have HS' : ResS L k w1 := KAt.chg HS C1 (fun _ _ h => h)
  refine ⟨.inr HS', ?_⟩
  clear HS hr
  have HS := HS'
  clear HS'
  simp only [Act.put, List.setIfInBounds_toArray, List.set_cons_zero, List.set_cons_succ]
  have hr := KAt.rowsOf HS
  refine wpAnyS_one 9 rfl (by kernel_rfl) (by rfl) ?_
  refine wp_callF 56 Yapd.func56 rfl (by kernel_rfl) [.slice (some ⟨L.a, 0, none⟩) k.n k.n] rfl rfl (fun v w' => v = .slice (some ⟨(w1).heap.size, 0, none⟩) k.n k.n ∧ w'.heap[(w1).heap.size]? = some (.cells (arr (k.n) (rd w1 L.a)) 3 (0, 0)) ∧ Chg No w1 w')
    ((clone_rd _ _ _ _ hr.1.1 hr.2.2.1).mono fun e w' h => ⟨_, h.1, rfl, h.2⟩) ?_
  rintro _ w2 ⟨rfl, G2, C2⟩
  have HS' : ResS L k w2 := KAt.chg HS C2 (fun _ _ h => h)
  refine ⟨.inr HS', ?_⟩
  clear HS hr
  have HS := HS'
  clear HS'
  simp only [Act.put, List.setIfInBounds_toArray, List.set_cons_zero, List.set_cons_succ]
  have hr := KAt.rowsOf HS
  refine wpAnyS_one 14 rfl (by kernel_rfl) (by rfl) ?_
  refine wp_callF 56 Yapd.func56 rfl (by kernel_rfl) [.slice (some ⟨L.u, 0, none⟩) k.n k.n] rfl rfl (fun v w' => v = .slice (some ⟨(w2).heap.size, 0, none⟩) k.n k.n ∧ w'.heap[(w2).heap.size]? = some (.cells (arr (k.n) (rd w2 L.u)) 3 (0, 0)) ∧ Chg No w2 w')
    ((clone_rd _ _ _ _ hr.1.1 hr.2.2.2.1).mono fun e w' h => ⟨_, h.1, rfl, h.2⟩) ?_
  rintro _ w3 ⟨rfl, G3, C3⟩
  have HS' : ResS L k w3 := KAt.chg HS C3 (fun _ _ h => h)
  refine ⟨.inr HS', ?_⟩
  clear HS hr
  have HS := HS'
  clear HS'
  simp only [Act.put, List.setIfInBounds_toArray, List.set_cons_zero, List.set_cons_succ]
  have hr := KAt.rowsOf HS
  refine wpAnyS_one 19 rfl (by kernel_rfl) (by rfl) ?_
  refine wp_callF 56 Yapd.func56 rfl (by kernel_rfl) [.slice (some ⟨L.p, 0, none⟩) k.pipe.length 3] rfl rfl (fun v w' => v = .slice (some ⟨(w3).heap.size, 0, none⟩) k.pipe.length k.pipe.length ∧ w'.heap[(w3).heap.size]? = some (.cells (arr (k.pipe.length) (rd w3 L.p)) 3 (0, 0)) ∧ Chg No w3 w')
    ((clone_rd _ _ _ _ hr.1.2.1 hr.2.2.2.2.1).mono fun e w' h => ⟨_, h.1, rfl, h.2⟩) ?_
  rintro _ w4 ⟨rfl, G4, C4⟩
  have HS' : ResS L k w4 := KAt.chg HS C4 (fun _ _ h => h)
  refine ⟨.inr HS', ?_⟩
  clear HS hr
  have HS := HS'
  clear HS'
  simp only [Act.put, List.setIfInBounds_toArray, List.set_cons_zero, List.set_cons_succ]
  have hr := KAt.rowsOf HS
  refine wpAnyS_one 24 rfl (by kernel_rfl) (by rfl) ?_
  refine wp_callF 56 Yapd.func56 rfl (by kernel_rfl) [.slice (some ⟨L.q, 0, none⟩) k.pipe2.length 3] rfl rfl (fun v w' => v = .slice (some ⟨(w4).heap.size, 0, none⟩) k.pipe2.length k.pipe2.length ∧ w'.heap[(w4).heap.size]? = some (.cells (arr (k.pipe2.length) (rd w4 L.q)) 3 (0, 0)) ∧ Chg No w4 w')
    ((clone_rd _ _ _ _ hr.1.2.2.1 hr.2.2.2.2.2.1).mono fun e w' h => ⟨_, h.1, rfl, h.2⟩) ?_
  rintro _ w5 ⟨rfl, G5, C5⟩
  have HS' : ResS L k w5 := KAt.chg HS C5 (fun _ _ h => h)
  refine ⟨.inr HS', ?_⟩
  clear HS hr
  have HS := HS'
  clear HS'
  simp only [Act.put, List.setIfInBounds_toArray, List.set_cons_zero, List.set_cons_succ]
  have hr := KAt.rowsOf HS
  refine wpAnyS_one 29 rfl (by kernel_rfl) (by rfl) ?_
  refine wp_callF 56 Yapd.func56 rfl (by kernel_rfl) [.slice (some ⟨L.t, 0, none⟩) k.trace.length 256] rfl rfl (fun v w' => v = .slice (some ⟨(w5).heap.size, 0, none⟩) k.trace.length k.trace.length ∧ w'.heap[(w5).heap.size]? = some (.cells (arr (k.trace.length) (rd w5 L.t)) 3 (0, 0)) ∧ Chg No w5 w')
    ((clone_rd _ _ _ _ hr.1.2.2.2 hr.2.2.2.2.2.2).mono fun e w' h => ⟨_, h.1, rfl, h.2⟩) ?_
  rintro _ w6 ⟨rfl, G6, C6⟩
  have HS' : ResS L k w6 := KAt.chg HS C6 (fun _ _ h => h)
  refine ⟨.inr HS', ?_⟩
  clear HS hr
  have HS := HS'
  clear HS'
  simp only [Act.put, List.setIfInBounds_toArray, List.set_cons_zero, List.set_cons_succ]
  refine wpAnyS_one 34 rfl (by kernel_rfl) (by rfl) ?_
  refine wp_val (.agg #[.bool false, .slice (some ⟨W.heap.size, 0, none⟩) k.n k.n, .slice (some ⟨w1.heap.size, 0, none⟩) k.n k.n, .slice (some ⟨w2.heap.size, 0, none⟩) k.n k.n, .slice (some ⟨w3.heap.size, 0, none⟩) k.pipe.length k.pipe.length, .slice (some ⟨w4.heap.size, 0, none⟩) k.pipe2.length k.pipe2.length, .slice (some ⟨w5.heap.size, 0, none⟩) k.trace.length k.trace.length, .int .i64 k.ticks]) (w' := w6) (by kernel_rfl) ⟨.inr HS, ?_⟩
  simp only [Act.put, List.setIfInBounds_toArray, List.set_cons_zero, List.set_cons_succ]
  have hC6 : Chg No W w6 := (((((C1.trans C2).trans C3).trans C4).trans C5).trans C6)
  have hB6 : Boxed w.heap.size 8 w6 := HB.chg hC6 (fun h => h)
  have hth : w6.there w.heap.size 0 8 := fun j hj => ⟨by rw [Nat.zero_add, hB6.cell hj]; rfl, hB6.fz⟩
  refine wpAnyS_one 35 rfl (by kernel_rfl) (by rfl) ?_
  refine wp_store_mid 25 _ _ rfl w.heap.size 0 #[.bool false, .slice (some ⟨W.heap.size, 0, none⟩) k.n k.n, .slice (some ⟨w1.heap.size, 0, none⟩) k.n k.n, .slice (some ⟨w2.heap.size, 0, none⟩) k.n k.n, .slice (some ⟨w3.heap.size, 0, none⟩) k.pipe.length k.pipe.length, .slice (some ⟨w4.heap.size, 0, none⟩) k.pipe2.length k.pipe2.length, .slice (some ⟨w5.heap.size, 0, none⟩) k.trace.length k.trace.length, .int .i64 k.ticks] rfl rfl hth (by kernel_rfl) (by simp [Value.oneCell']) ⟨.inl (by kernel_rfl), wpAnyS_done (by kernel_rfl) ?_⟩
  have hrg := World.rangeAt_setCells_same w6 w.heap.size 0 [.bool false, .slice (some ⟨W.heap.size, 0, none⟩) k.n k.n, .slice (some ⟨w1.heap.size, 0, none⟩) k.n k.n, .slice (some ⟨w2.heap.size, 0, none⟩) k.n k.n, .slice (some ⟨w3.heap.size, 0, none⟩) k.pipe.length k.pipe.length, .slice (some ⟨w4.heap.size, 0, none⟩) k.pipe2.length k.pipe2.length, .slice (some ⟨w5.heap.size, 0, none⟩) k.trace.length k.trace.length, .int .i64 k.ticks] hth
  have hC7 : Chg No w (w6.setCells w.heap.size 0 [.bool false, .slice (some ⟨W.heap.size, 0, none⟩) k.n k.n, .slice (some ⟨w1.heap.size, 0, none⟩) k.n k.n, .slice (some ⟨w2.heap.size, 0, none⟩) k.n k.n, .slice (some ⟨w3.heap.size, 0, none⟩) k.pipe.length k.pipe.length, .slice (some ⟨w4.heap.size, 0, none⟩) k.pipe2.length k.pipe2.length, .slice (some ⟨w5.heap.size, 0, none⟩) k.trace.length k.trace.length, .int .i64 k.ticks]) := Chg.setCells (.inr (Nat.le_refl _)) _ _ _ (HC.out.trans hC6)
  have lt1 : W.heap.size < w1.heap.size := heap_lt G1
  have g1 : (w6.setCells w.heap.size 0 [.bool false, .slice (some ⟨W.heap.size, 0, none⟩) k.n k.n, .slice (some ⟨w1.heap.size, 0, none⟩) k.n k.n, .slice (some ⟨w2.heap.size, 0, none⟩) k.n k.n, .slice (some ⟨w3.heap.size, 0, none⟩) k.pipe.length k.pipe.length, .slice (some ⟨w4.heap.size, 0, none⟩) k.pipe2.length k.pipe2.length, .slice (some ⟨w5.heap.size, 0, none⟩) k.trace.length k.trace.length, .int .i64 k.ticks]).heap[W.heap.size]? = some (.cells (arr k.n k.st) 3 (0, 0)) := by
    have hk : KAt W L k := H.out.chg HC.out (fun _ _ h => h)
    have hw := HC.out.size
    obtain ⟨cs0, e0, hb0, _⟩ := HB
    have := heap_lt hb0
    rw [heap_setCells_ne (by omega), (((((C2.trans C3).trans C4).trans C5).trans C6)).block _ lt1 (fun h => h), G1, arr_congr (g := k.st)]
    intro i hi
    simp [rd, hk.cs hi]
  have g6 : (w6.setCells w.heap.size 0 [.bool false, .slice (some ⟨W.heap.size, 0, none⟩) k.n k.n, .slice (some ⟨w1.heap.size, 0, none⟩) k.n k.n, .slice (some ⟨w2.heap.size, 0, none⟩) k.n k.n, .slice (some ⟨w3.heap.size, 0, none⟩) k.pipe.length k.pipe.length, .slice (some ⟨w4.heap.size, 0, none⟩) k.pipe2.length k.pipe2.length, .slice (some ⟨w5.heap.size, 0, none⟩) k.trace.length k.trace.length, .int .i64 k.ticks]).heap[w5.heap.size]? = some (.cells (arr k.trace.length fun i => k.trace.getD i 0) 3 (0, 0)) := by
    have hC5 : Chg No W w5 := ((((C1.trans C2).trans C3).trans C4).trans C5)
    have hk : KAt w5 L k := H.out.chg (HC.out.trans hC5) (fun _ _ h => h)
    obtain ⟨cs0, e0, hb0, _⟩ := HB
    have := heap_lt hb0
    have := hC5.size
    rw [heap_setCells_ne (by omega), G6, arr_congr (g := fun i => k.trace.getD i 0)]
    intro i hi
    simp [rd, hk.t.cell hi]
  generalize w6.setCells w.heap.size 0 [.bool false, .slice (some ⟨W.heap.size, 0, none⟩) k.n k.n, .slice (some ⟨w1.heap.size, 0, none⟩) k.n k.n, .slice (some ⟨w2.heap.size, 0, none⟩) k.n k.n, .slice (some ⟨w3.heap.size, 0, none⟩) k.pipe.length k.pipe.length, .slice (some ⟨w4.heap.size, 0, none⟩) k.pipe2.length k.pipe2.length, .slice (some ⟨w5.heap.size, 0, none⟩) k.trace.length k.trace.length, .int .i64 k.ticks] = W7 at *
  simp only [Act.put]
  have hsz : w.heap.size ≤ W.heap.size ∧ w.heap.size ≤ w5.heap.size := ⟨HC.out.size, Nat.le_trans HC.out.size ((((C1.trans C2).trans C3).trans C4).trans C5).size⟩
  have HH : Hid (_ ∧ _ ∧ _ ∧ _ ∧ _) := ⟨hrg, g1, g6, hsz, hC7⟩
  clear hrg g1 g6 hC7 hsz hth G1 G2 G3 G4 G5 G6 C1 C2 C3 C4 C5 C6 HS hC6 hB6 HB lt1
  go_wp2_with fail
  obtain ⟨hrg, g1, g6, hsz, hC7⟩ := HH.out
  refine bodyPost_ret (v := .agg #[.bool false, .slice (some ⟨W.heap.size, 0, none⟩) k.n k.n, .slice (some ⟨w1.heap.size, 0, none⟩) k.n k.n, .slice (some ⟨w2.heap.size, 0, none⟩) k.n k.n, .slice (some ⟨w3.heap.size, 0, none⟩) k.pipe.length k.pipe.length, .slice (some ⟨w4.heap.size, 0, none⟩) k.pipe2.length k.pipe2.length, .slice (some ⟨w5.heap.size, 0, none⟩) k.trace.length k.trace.length, .int .i64 k.ticks]) (results_box Yapd.results39 rfl hrg Yapd.underlying25 rfl (by kernel_rfl)) rfl ?_
  exact ⟨_, _, _, _, _, _, rfl, g1, g6, hsz, hC7⟩
end Go.Proofs.Ygdapg
