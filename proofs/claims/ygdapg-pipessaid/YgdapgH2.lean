/-
  keep, WALKED.
-/
import Derived.Test.YgdapgH1
set_option linter.unusedSimpArgs false
set_option linter.unusedVariables false
namespace Go.Proofs.Ygdapg
open Go.RowKit

/-- The numbers g 0 .. g (n-1) as a list of cells. -/
def ints (n : Nat) (g : Nat → Int) : List Value := (List.range n).map fun i => Value.int .i64 (g i)
theorem ints_length (n : Nat) (g : Nat → Int) : (ints n g).length = n := by simp [ints]
theorem ints_get {n i : Nat} (g : Nat → Int) (h : i < n) : (ints n g)[i]? = some (.int .i64 (g i)) := by simp [ints, h]

theorem load_ints (W : World) (b o n : Nat) (g : Nat → Int) (h2 : ∀ i, i < n → W.cell? ⟨b, o + i, none⟩ = some (.int .i64 (g i))) :
    (loadCellsFrom ⟨b, o, none⟩ 0 n #[]).run Yapd.prog W = .ok (ints n g).toArray W := by
  have := run_loadCells_list (P := Yapd.prog) W ⟨b, o, none⟩ (ints n g) (fun j u hj => by
      have hjl : j < n := by
        rcases Nat.lt_or_ge j n with h | h
        · exact h
        · rw [List.getElem?_eq_none (by rw [ints_length]; exact h)] at hj; cases hj
      rw [ints_get g hjl] at hj
      have e1 : (⟨b, o, none⟩ : Addr).add j = ⟨b, o + j, none⟩ := by unfold Addr.add; split <;> simp_all
      rw [e1, h2 j hjl, hj])
  rw [ints_length] at this
  exact this
theorem store_ints (W : World) (ab al ac n : Nat) (g : Nat → Int) (cs : Array Value) (hb : W.heap[ab]? = some (.cells cs 3 (0, 0))) (hs : cs.size = ac) (hroom : al + n ≤ ac) :
    (storeCells ⟨ab, al, none⟩ (ints n g)).run Yapd.prog W = .ok () (W.setCells ab al (ints n g)) := by
  have := run_storeCells_cells (P := Yapd.prog) ab al (ints n g) 0 W (fun j hj => by rw [cell_of hb]; rw [ints_length] at hj; simp [hs]; omega) (fun j hj => frozen_of hb) (fun u hu => by
      obtain ⟨m, -, rfl⟩ := List.mem_map.1 hu
      rfl)
  simpa using this

theorem append_none (W : World) (a0 a2 : Option Addr) (al ac c : Nat) (h : al ≤ ac) : (Builtin.append_ #[23, 23] 23 #[.slice a0 al ac, .slice a2 0 c]).run Yapd.prog W = .ok (.slice a0 (al + 0) ac) W := by
  have hi : ∃ i, Yapd.prog.info? 3 = some i ∧ i.size = 1 := ⟨_, rfl, rfl⟩
  obtain ⟨i, hi, hz⟩ := hi
  have hl : ∀ (x : Addr), (loadCells x 0).run Yapd.prog W = .ok #[] W := fun x => by simpa using run_loadCells_list (P := Yapd.prog) W x [] (by simp)
  cases a0 <;> cases a2 <;> simp [Builtin.append_, run_underlying Yapd.underlying23, sizeOf, typeInfo, hi, hz, Builtin.lenOf, h, Builtin.firstCells, hl, storeCells]

theorem run_slice23 {o : Oper} {a : Act} {W : World} {x lo hi mx : Operand} {base : Option Addr} {n c l : Nat} (ho : o.op = .slice 23 x (some lo) (some hi) (some mx)) (hx : a.eval x = .slice base n c)
    (hlo : a.eval lo = .int .i64 (l : Int)) (hhi : a.eval hi = .int .i64 (n : Int)) (hmx : a.eval mx = .int .i64 (n : Int)) (hl : l ≤ n) (hn : n ≤ c) :
    (execOp a.eval o).run Yapd.prog W = .ok (.value (.slice (if n = l then base else base.map (·.add l)) (n - l) (n - l))) W := by
  have hi3 : ∃ i, Yapd.prog.info? 3 = some i ∧ i.size = 1 := ⟨_, rfl, rfl⟩
  obtain ⟨i, hi3, hz⟩ := hi3
  have h1 : (0 : Int) ≤ (n : Int) := by omega
  have h2 : (n : Int) ≤ (c : Int) := by omega
  have h3 : (0 : Int) ≤ (l : Int) := by omega
  have h4 : (l : Int) ≤ (n : Int) := by omega
  simp only [execOp, ho, hx, hlo, hhi, hmx, Option.map_some]
  simp [Instr.sliceAt, Instr.slice, Instr.sliceBounds, Instr.sliceBound, run_underlying Yapd.underlying23, asIntOf, sizeOf, typeInfo, hi3, hz, hl, hn]

theorem run_slice23e {o : Oper} {a : Act} {W : World} {x lo hi mx : Operand} {base : Option Addr} {n c : Nat} (ho : o.op = .slice 23 x (some lo) (some hi) (some mx)) (hx : a.eval x = .slice base n c)
    (hlo : a.eval lo = .int .i64 (n : Int)) (hhi : a.eval hi = .int .i64 (n : Int)) (hmx : a.eval mx = .int .i64 (n : Int)) (hn : n ≤ c) :
    (execOp a.eval o).run Yapd.prog W = .ok (.value (.slice base 0 0)) W := by
  have := run_slice23 (W := W) ho hx hlo hhi hmx (Nat.le_refl _) hn
  simpa using this

/-- Cell i of block b lies in the free part of the arena V. -/
def Fr (V : Value) (b i : Nat) : Prop := ∃ al ac, V = .slice (some ⟨b, 0, none⟩) al ac ∧ al ≤ i
/-- Block b is the arena's. -/
def AB (V : Value) (b : Nat) : Prop := ∃ al ac, V = .slice (some ⟨b, 0, none⟩) al ac
def ArenaAt (w : World) (V : Value) : Prop :=
  V = .slice none 0 0 ∨ ∃ ab al ac cs, V = .slice (some ⟨ab, 0, none⟩) al ac ∧ w.heap[ab]? = some (.cells cs 3 (0, 0)) ∧ cs.size = ac ∧ al ≤ ac ∧ ac ≤ 4096
/-- A slice of numbers, none of its cells in the arena's free part. -/
def SlS (w : World) (V v : Value) (n : Nat) (f : Nat → Int) : Prop :=
  (n = 0 ∧ ∃ a c, v = .slice a 0 c) ∨ ∃ b o c, v = .slice (some ⟨b, o, none⟩) n c ∧ ∀ i, i < n → w.cell? ⟨b, o + i, none⟩ = some (.int .i64 (f i)) ∧ ¬ Fr V b (o + i)
theorem SlS.row {w : World} {V v : Value} {n : Nat} {f : Nat → Int} (h : SlS w V v n f) : RowAt w v n f := by
  rcases h with h | ⟨b, o, c, rfl, h⟩
  · exact .inl h
  · exact .inr ⟨b, o, c, rfl, fun i hi => (h i hi).1⟩
/-- What keep does to memory: of old cells only the arena's free ones; and what was not free is not free now. -/
structure KeepChg (w : World) (V : Value) (w' : World) (V' : Value) : Prop where
  chg : Chg (AB V) w w'
  cell : ∀ b i, b < w.heap.size → ¬ Fr V b i → w'.cell? ⟨b, i, none⟩ = w.cell? ⟨b, i, none⟩ ∧ ¬ Fr V' b i
  arena : ArenaAt w' V'
  ab : ∀ b, AB V' b → AB V b ∨ w.heap.size ≤ b
theorem SlS.kept {w w' : World} {V V' v : Value} {n : Nat} {f : Nat → Int} (h : SlS w V v n f) (hk : KeepChg w V w' V') : SlS w' V' v n f := by
  rcases h with h | ⟨b, o, c, rfl, h⟩
  · exact .inl h
  · refine .inr ⟨b, o, c, rfl, fun i hi => ?_⟩
    obtain ⟨h1, h2⟩ := h i hi
    obtain ⟨h3, h4⟩ := hk.cell b (o + i) (cell_lt h1) h2
    exact ⟨by rw [h3]; exact h1, h4⟩

def KeepPost (w : World) (V v1 : Value) (n : Nat) (g : Nat → Int) (e : Ending) (w' : World) : Prop :=
  ∃ V' out, e = .returned (.tuple #[V', out]) ∧ KeepChg w V w' V' ∧ SlS w' V' out n g ∧ (out = v1 ∨ ∀ b o m c, out = .slice (some ⟨b, o, none⟩) m c → AB V' b)

theorem ArenaAt.chg {w w' : World} {V : Value} (h : ArenaAt w V) (hc : Chg No w w') : ArenaAt w' V := by
  rcases h with h | ⟨ab, al, ac, cs, h1, h2, h3⟩
  · exact .inl h
  · exact .inr ⟨ab, al, ac, cs, h1, by rw [hc.block ab (heap_lt h2) (fun h => h)]; exact h2, h3⟩

theorem KeepChg.same {w w' : World} {V : Value} (ha : ArenaAt w V) (hc : Chg No w w') : KeepChg w V w' V :=
  ⟨hc.mono (fun _ h => h.elim), fun b i hb hf => ⟨hc.cell (p := ⟨b, i, none⟩) hb (fun h => h), hf⟩, ha.chg hc, fun b h => .inl h⟩

theorem ab_of {ab l a n c b o m c' : Nat} (h : Value.slice (some ⟨ab, a, none⟩) n c = .slice (some ⟨b, o, none⟩) m c') {ac : Nat} : AB (.slice (some ⟨ab, 0, none⟩) l ac) b := by
  simp only [Value.slice.injEq, Option.some.injEq, Addr.mk.injEq, and_true] at h
  obtain ⟨⟨rfl, _⟩, _⟩ := h
  exact ⟨_, _, rfl⟩

set_option maxHeartbeats 400000 in
theorem keep_same (w : World) (V v1 v2 : Value) (n1 n : Nat) (f g : Nat → Int) (HA : Hid (ArenaAt w V)) (H1 : Hid (SlS w V v1 n1 f)) (H2 : Hid (RowAt w v2 n g)) (hn1 : n1 ≤ 256) (hn : n ≤ 256) (Heq : Hid (n1 = n ∧ ∀ i, i < n1 → f i = g i)) :
    Calls Yapd.prog 77 #[V, v1, v2] w (KeepPost w V v1 n g) := by
  go_enter Yapd.func77, Yapd.ntmps77
  go_wp2_with fail
  refine (unchanged_any w v1 v2 n1 n f g H1.out.row H2.out (by omega) (by omega)).mono ?_
  rintro e w1 ⟨⟨r, rfl, hr⟩, C1⟩
  have hr' : r = true := hr.2 Heq.out
  subst hr'
  have HC1 : Hid (Chg No w w1) := C1
  clear C1 hr
  go_wp2_with fail
  go_ret2
  have hk := KeepChg.same HA.out HC1.out
  refine ⟨V, v1, rfl, hk, ?_, .inl rfl⟩
  have h := H1.out.kept hk
  obtain ⟨rfl, he⟩ := Heq.out
  rcases h with h | ⟨b, o, c, rfl, h⟩
  · exact .inl h
  · exact .inr ⟨b, o, c, rfl, fun i hi => ⟨by rw [(h i hi).1, he i hi], (h i hi).2⟩⟩

/-- Behind the append in place. -/
theorem keep_fin {w w1 : World} {V : Value} {ab al ac n : Nat} {cs : Array Value} {g : Nat → Int} (hc : Chg No w w1) (hb : w1.heap[ab]? = some (.cells cs 3 (0, 0))) (hs : cs.size = ac) (hroom : al + n ≤ ac) (hac : ac ≤ 4096)
    (hV : V = .slice (some ⟨ab, 0, none⟩) al ac ∨ (al = 0 ∧ w.heap.size ≤ ab ∧ ∀ b, AB V b → b < w.heap.size)) (n0 : 0 < n) :
    KeepChg w V (w1.setCells ab al (ints n g)).drew (.slice (some ⟨ab, 0, none⟩) (al + n) ac) ∧ SlS (w1.setCells ab al (ints n g)).drew (.slice (some ⟨ab, 0, none⟩) (al + n) ac) (.slice (some ⟨ab, al, none⟩) n n) n g := by
  obtain ⟨cs', g1, g2, g3, g4, g5⟩ := heap_setCells (ints n g) al w1 cs hb
  rw [ints_length] at g4 g5
  have hAB : AB V ab ∨ w.heap.size ≤ ab := by
    rcases hV with h | h
    · exact .inl ⟨al, ac, h⟩
    · exact .inr h.2.1
  refine ⟨⟨?_, fun b i hbl hf => ⟨?_, ?_⟩, ?_, ?_⟩, ?_⟩
  · exact (Chg.setCells hAB _ _ _ (hc.mono (fun _ h => h.elim))).drew
  · rcases hV with rfl | h
    · by_cases e : b = ab
      · subst e
        have hi : i < al := by
          rcases Nat.lt_or_ge i al with h | h
          · exact h
          · exact absurd ⟨al, ac, rfl, h⟩ hf
        show (w1.setCells b al (ints n g)).cell? ⟨b, i, none⟩ = _
        rw [cell_of g1, g3 i hi, ← hc.cell (p := ⟨b, i, none⟩) hbl (fun h => h), cell_of hb]
      · show (w1.setCells ab al (ints n g)).cell? ⟨b, i, none⟩ = _
        rw [World.cell?_of_block (w := w1) (a := ⟨b, i, none⟩) (heap_setCells_ne e _ _ _)]
        exact hc.cell (p := ⟨b, i, none⟩) hbl (fun h => h)
    · show (w1.setCells ab al (ints n g)).cell? ⟨b, i, none⟩ = _
      rw [World.cell?_of_block (w := w1) (a := ⟨b, i, none⟩) (heap_setCells_ne (show b ≠ ab by omega) _ _ _)]
      exact hc.cell (p := ⟨b, i, none⟩) hbl (fun h => h)
  · rintro ⟨al', ac', he, hle⟩
    simp only [Value.slice.injEq, Option.some.injEq, Addr.mk.injEq, and_true] at he
    obtain ⟨rfl, rfl, rfl⟩ := he
    rcases hV with rfl | h
    · exact hf ⟨al, ac, rfl, by omega⟩
    · omega
  · exact .inr ⟨ab, al + n, ac, cs', rfl, g1, by omega, by omega, hac⟩
  · rintro b ⟨al', ac', he⟩
    simp only [Value.slice.injEq, Option.some.injEq, Addr.mk.injEq, and_true] at he
    obtain ⟨rfl, _, _⟩ := he
    exact hAB
  · refine .inr ⟨ab, al, n, rfl, fun i hi => ⟨?_, ?_⟩⟩
    · show (w1.setCells ab al (ints n g)).cell? ⟨ab, al + i, none⟩ = _
      rw [cell_of g1, g5 i hi (by omega), ints_get g hi]
    · rintro ⟨al', ac', he, hle⟩
      simp only [Value.slice.injEq, Option.some.injEq, Addr.mk.injEq, and_true] at he
      omega

set_option maxRecDepth 100000 in
set_option maxHeartbeats 1000000 in
theorem keep_room (w : World) (ab al ac : Nat) (cs : Array Value) (v1 : Value) (n1 n : Nat) (f g : Nat → Int) (HA : Hid (w.heap[ab]? = some (.cells cs 3 (0, 0)))) (Hs : Hid (cs.size = ac)) (H1 : Hid (RowAt w v1 n1 f))
    (b o c : Nat) (H2 : Hid (∀ i, i < n → w.cell? ⟨b, o + i, none⟩ = some (.int .i64 (g i)))) (n0 : 0 < n) (hn1 : n1 ≤ 256) (hn : n ≤ 32) (hac : ac ≤ 4096) (hroom : al + n ≤ ac) (Hne : Hid (¬ (n1 = n ∧ ∀ i, i < n1 → f i = g i))) :
    Calls Yapd.prog 77 #[.slice (some ⟨ab, 0, none⟩) al ac, v1, .slice (some ⟨b, o, none⟩) n c] w (KeepPost w (.slice (some ⟨ab, 0, none⟩) al ac) v1 n g) := by
  go_enter Yapd.func77, Yapd.ntmps77
  go_wp2_with fail
  refine (unchanged_any w v1 _ n1 n f g H1.out (.inr ⟨b, o, c, rfl, H2.out⟩) (by omega) (by omega)).mono ?_
  rintro e w1 ⟨⟨r, rfl, hr⟩, C1⟩
  have hr' : r = false := by
    cases r
    · rfl
    · exact absurd (hr.1 rfl) Hne.out
  subst hr'
  have HC1 : Hid (Chg No w w1) := C1
  clear C1 hr
  go_wp2_with fail
  have hb1 : w1.heap[ab]? = some (.cells cs 3 (0, 0)) := by rw [HC1.out.block ab (heap_lt HA.out) (fun h => h)]; exact HA.out
  rw [load_ints w1 b o n g (fun i hi => kcell HC1.out (H2.out i hi))]
  simp only [Result.andThen_ok, List.toList_toArray]
  rw [store_ints w1 ab al ac n g cs hb1 Hs.out hroom]
  simp only [Result.andThen_ok]
  have HF : Hid (_ ∧ _) := keep_fin (w := w) (V := .slice (some ⟨ab, 0, none⟩) al ac) (g := g) HC1.out hb1 Hs.out hroom hac (.inl rfl) n0
  clear hb1
  generalize w1.setCells ab al (ints n g) = W3 at *
  go_wp2_with fail
  refine wp_region_S (fun W => Chg No W3 W) [0, 1, 2, 3, 4, 5, 6, 7, 8, 9] (by kernel_rfl) ?_
  have HS : Chg No W3 W3.drew := (Chg.refl _ _).drew
  refine wpAnyS_take 0 (Value.slice (some ⟨ab, 0, none⟩) (al + n) ac) rfl (by kernel_rfl) (by kernel_rfl) (by kernel_rfl) (by kernel_rfl) (fun _ _ _ h => h) (by rfl) HS (fun _ _ => rfl) ?_
  simp only [Act.put, List.setIfInBounds_toArray, List.set_cons_zero, List.set_cons_succ]
  refine wpAnyS_take 1 (Value.slice (some ⟨ab, 0, none⟩) (al + n) ac) rfl (by kernel_rfl) (by kernel_rfl) (by kernel_rfl) (by kernel_rfl) (fun _ _ _ h => h) (by rfl) HS (fun _ _ => rfl) ?_
  simp only [Act.put, List.setIfInBounds_toArray, List.set_cons_zero, List.set_cons_succ]
  refine wpAnyS_take 2 (Value.int .i64 (al : Int)) rfl (by kernel_rfl) (by kernel_rfl) (by kernel_rfl) (by kernel_rfl) (fun _ _ _ h => h) (by rfl) HS (fun _ _ => rfl) ?_
  simp only [Act.put, List.setIfInBounds_toArray, List.set_cons_zero, List.set_cons_succ]
  refine wpAnyS_take 3 (Value.slice (some ⟨ab, 0, none⟩) (al + n) ac) rfl (by kernel_rfl) (by kernel_rfl) (by kernel_rfl) (by kernel_rfl) (fun _ _ _ h => h) (by rfl) HS (fun _ _ => rfl) ?_
  simp only [Act.put, List.setIfInBounds_toArray, List.set_cons_zero, List.set_cons_succ]
  refine wpAnyS_take 4 (Value.int .i64 ((al + n : Nat) : Int)) rfl (by kernel_rfl) (by kernel_rfl) (by kernel_rfl) (by kernel_rfl) (fun _ _ _ h => h) (by rfl) HS (fun _ _ => by kernel_rfl) ?_
  simp only [Act.put, List.setIfInBounds_toArray, List.set_cons_zero, List.set_cons_succ]
  refine wpAnyS_take 5 (Value.slice (some ⟨ab, 0, none⟩) (al + n) ac) rfl (by kernel_rfl) (by kernel_rfl) (by kernel_rfl) (by kernel_rfl) (fun _ _ _ h => h) (by rfl) HS (fun _ _ => rfl) ?_
  simp only [Act.put, List.setIfInBounds_toArray, List.set_cons_zero, List.set_cons_succ]
  refine wpAnyS_take 6 (Value.int .i64 ((al + n : Nat) : Int)) rfl (by kernel_rfl) (by kernel_rfl) (by kernel_rfl) (by kernel_rfl) (fun _ _ _ h => h) (by rfl) HS (fun _ _ => by kernel_rfl) ?_
  simp only [Act.put, List.setIfInBounds_toArray, List.set_cons_zero, List.set_cons_succ]
  refine wpAnyS_take 7 (Value.slice (if al + n = al then some (⟨ab, 0, none⟩ : Addr) else Option.map (fun x : Addr => x.add al) (some (⟨ab, 0, none⟩ : Addr))) (al + n - al) (al + n - al)) rfl (by kernel_rfl) (by kernel_rfl) (by kernel_rfl) (by kernel_rfl) (fun _ _ _ h => h) (by rfl) HS (fun _ _ => run_slice23 rfl rfl rfl rfl rfl (by omega) (by omega)) ?_
  simp only [Act.put, List.setIfInBounds_toArray, List.set_cons_zero, List.set_cons_succ]
  refine wpAnyS_take 8 (Value.slice (some ⟨ab, 0, none⟩) (al + n) ac) rfl (by kernel_rfl) (by kernel_rfl) (by kernel_rfl) (by kernel_rfl) (fun _ _ _ h => h) (by rfl) HS (fun _ _ => rfl) ?_
  simp only [Act.put, List.setIfInBounds_toArray, List.set_cons_zero, List.set_cons_succ]
  refine wpAnyS_take 9 (Value.slice (if al + n = al then some (⟨ab, 0, none⟩ : Addr) else Option.map (fun x : Addr => x.add al) (some (⟨ab, 0, none⟩ : Addr))) (al + n - al) (al + n - al)) rfl (by kernel_rfl) (by kernel_rfl) (by kernel_rfl) (by kernel_rfl) (fun _ _ _ h => h) (by rfl) HS (fun _ _ => rfl) ?_
  simp only [Act.put, List.setIfInBounds_toArray, List.set_cons_zero, List.set_cons_succ]
  refine wpAnyS_done (by kernel_rfl) ?_
  clear HS
  go_wp2_with fail
  go_ret2
  exact ⟨_, _, rfl, HF.out.1, HF.out.2, .inr fun b o m c h => ab_of h⟩

set_option maxRecDepth 100000 in
set_option maxHeartbeats 1000000 in
theorem keep_newA (w : World) (a0 : Option Addr) (al ac : Nat) (v1 : Value) (n1 n : Nat) (f g : Nat → Int) (HV : Hid (∀ b, AB (.slice a0 al ac) b → b < w.heap.size)) (H1 : Hid (RowAt w v1 n1 f))
    (b o c : Nat) (H2 : Hid (∀ i, i < n → w.cell? ⟨b, o + i, none⟩ = some (.int .i64 (g i)))) (n0 : 0 < n) (hn1 : n1 ≤ 256) (hn : n ≤ 32) (hal : al ≤ ac) (hac : ac ≤ 4096) (hroom : ac < al + n) (Hne : Hid (¬ (n1 = n ∧ ∀ i, i < n1 → f i = g i))) (h : 2 * ac < 32) :
    Calls Yapd.prog 77 #[.slice a0 al ac, v1, .slice (some ⟨b, o, none⟩) n c] w (KeepPost w (.slice a0 al ac) v1 n g) := by
  go_enter Yapd.func77, Yapd.ntmps77
  go_wp2_with fail
  refine (unchanged_any w v1 _ n1 n f g H1.out (.inr ⟨b, o, c, rfl, H2.out⟩) (by omega) (by omega)).mono ?_
  rintro e w1 ⟨⟨r, rfl, hr⟩, C1⟩
  have hr' : r = false := by
    cases r
    · rfl
    · exact absurd (hr.1 rfl) Hne.out
  subst hr'
  have HC1 : Hid (Chg No w w1) := C1
  clear C1 hr
  have hmk : (Instr.makeSlice 23 (.int .i64 0) (.int .i64 32)).run Yapd.prog w1 = .ok (.slice (some ⟨w1.heap.size, 0, none⟩) 0 (32)) (w1.alloc (.cells (arr (32) fun _ => 0) 3)) := by
    have := make_ints w1 0 (32) (Nat.zero_le _) (by omega)
    simpa using this
  go_wp2_with fail
  have hb1 : (w1.alloc (.cells (arr (32) fun _ => 0) 3)).heap[w1.heap.size]? = some (.cells (arr (32) fun _ => 0) 3 (0, 0)) := by show (w1.heap.push _)[w1.heap.size]? = _; simp
  have hC2 : Chg No w (w1.alloc (.cells (arr (32) fun _ => 0) 3)) := HC1.out.alloc _
  rw [load_ints _ b o n g (fun i hi => kcell hC2 (H2.out i hi))]
  simp only [Result.andThen_ok, List.toList_toArray]
  rw [store_ints _ w1.heap.size 0 (32) n g _ hb1 (arr_size _ _) (by omega)]
  simp only [Result.andThen_ok]
  have HF : Hid (_ ∧ _) := keep_fin (w := w) (V := .slice a0 al ac) (al := 0) (g := g) hC2 hb1 (arr_size _ _) (by omega) (by omega) (.inr ⟨rfl, HC1.out.size, HV.out⟩) n0
  clear hb1 hmk hC2
  generalize (w1.alloc (.cells (arr (32) fun _ => 0) 3)).setCells w1.heap.size 0 (ints n g) = W3 at *
  generalize w1.heap.size = ab at *
  rw [Nat.zero_add] at HF
  go_wp2_with fail
  refine wp_region_S (fun W => Chg No W3 W) [0, 1, 2, 3, 4, 5, 6, 7, 8, 9] (by kernel_rfl) ?_
  have HS : Chg No W3 W3.drew := (Chg.refl _ _).drew
  refine wpAnyS_take 0 (Value.slice (some ⟨ab, 0, none⟩) n 32) rfl (by kernel_rfl) (by kernel_rfl) (by kernel_rfl) (by kernel_rfl) (fun _ _ _ h => h) (by rfl) HS (fun _ _ => rfl) ?_
  simp only [Act.put, List.setIfInBounds_toArray, List.set_cons_zero, List.set_cons_succ]
  refine wpAnyS_take 1 (Value.slice (some ⟨ab, 0, none⟩) n 32) rfl (by kernel_rfl) (by kernel_rfl) (by kernel_rfl) (by kernel_rfl) (fun _ _ _ h => h) (by rfl) HS (fun _ _ => rfl) ?_
  simp only [Act.put, List.setIfInBounds_toArray, List.set_cons_zero, List.set_cons_succ]
  refine wpAnyS_take 2 (Value.int .i64 0) rfl (by kernel_rfl) (by kernel_rfl) (by kernel_rfl) (by kernel_rfl) (fun _ _ _ h => h) (by rfl) HS (fun _ _ => rfl) ?_
  simp only [Act.put, List.setIfInBounds_toArray, List.set_cons_zero, List.set_cons_succ]
  refine wpAnyS_take 3 (Value.slice (some ⟨ab, 0, none⟩) n 32) rfl (by kernel_rfl) (by kernel_rfl) (by kernel_rfl) (by kernel_rfl) (fun _ _ _ h => h) (by rfl) HS (fun _ _ => rfl) ?_
  simp only [Act.put, List.setIfInBounds_toArray, List.set_cons_zero, List.set_cons_succ]
  refine wpAnyS_take 4 (Value.int .i64 (n : Int)) rfl (by kernel_rfl) (by kernel_rfl) (by kernel_rfl) (by kernel_rfl) (fun _ _ _ h => h) (by rfl) HS (fun _ _ => by kernel_rfl) ?_
  simp only [Act.put, List.setIfInBounds_toArray, List.set_cons_zero, List.set_cons_succ]
  refine wpAnyS_take 5 (Value.slice (some ⟨ab, 0, none⟩) n 32) rfl (by kernel_rfl) (by kernel_rfl) (by kernel_rfl) (by kernel_rfl) (fun _ _ _ h => h) (by rfl) HS (fun _ _ => rfl) ?_
  simp only [Act.put, List.setIfInBounds_toArray, List.set_cons_zero, List.set_cons_succ]
  refine wpAnyS_take 6 (Value.int .i64 (n : Int)) rfl (by kernel_rfl) (by kernel_rfl) (by kernel_rfl) (by kernel_rfl) (fun _ _ _ h => h) (by rfl) HS (fun _ _ => by kernel_rfl) ?_
  simp only [Act.put, List.setIfInBounds_toArray, List.set_cons_zero, List.set_cons_succ]
  refine wpAnyS_take 7 (Value.slice (if n = 0 then some (⟨ab, 0, none⟩ : Addr) else Option.map (fun x : Addr => x.add 0) (some (⟨ab, 0, none⟩ : Addr))) (n - 0) (n - 0)) rfl (by kernel_rfl) (by kernel_rfl) (by kernel_rfl) (by kernel_rfl) (fun _ _ _ h => h) (by rfl) HS (fun _ _ => run_slice23 (l := 0) rfl rfl rfl rfl rfl (by omega) (by omega)) ?_
  simp only [Act.put, List.setIfInBounds_toArray, List.set_cons_zero, List.set_cons_succ]
  refine wpAnyS_take 8 (Value.slice (some ⟨ab, 0, none⟩) n 32) rfl (by kernel_rfl) (by kernel_rfl) (by kernel_rfl) (by kernel_rfl) (fun _ _ _ h => h) (by rfl) HS (fun _ _ => rfl) ?_
  simp only [Act.put, List.setIfInBounds_toArray, List.set_cons_zero, List.set_cons_succ]
  refine wpAnyS_take 9 (Value.slice (if n = 0 then some (⟨ab, 0, none⟩ : Addr) else Option.map (fun x : Addr => x.add 0) (some (⟨ab, 0, none⟩ : Addr))) (n - 0) (n - 0)) rfl (by kernel_rfl) (by kernel_rfl) (by kernel_rfl) (by kernel_rfl) (fun _ _ _ h => h) (by rfl) HS (fun _ _ => rfl) ?_
  simp only [Act.put, List.setIfInBounds_toArray, List.set_cons_zero, List.set_cons_succ]
  refine wpAnyS_done (by kernel_rfl) ?_
  clear HS
  go_wp2_with fail
  go_ret2
  exact ⟨_, _, rfl, HF.out.1, HF.out.2, .inr fun b o m c h => ab_of h⟩

set_option maxRecDepth 100000 in
set_option maxHeartbeats 1000000 in
theorem keep_newB (w : World) (a0 : Option Addr) (al ac : Nat) (v1 : Value) (n1 n : Nat) (f g : Nat → Int) (HV : Hid (∀ b, AB (.slice a0 al ac) b → b < w.heap.size)) (H1 : Hid (RowAt w v1 n1 f))
    (b o c : Nat) (H2 : Hid (∀ i, i < n → w.cell? ⟨b, o + i, none⟩ = some (.int .i64 (g i)))) (n0 : 0 < n) (hn1 : n1 ≤ 256) (hn : n ≤ 32) (hal : al ≤ ac) (hac : ac ≤ 4096) (hroom : ac < al + n) (Hne : Hid (¬ (n1 = n ∧ ∀ i, i < n1 → f i = g i))) (h : 32 ≤ 2 * ac) (h' : 2 * ac ≤ 2048) :
    Calls Yapd.prog 77 #[.slice a0 al ac, v1, .slice (some ⟨b, o, none⟩) n c] w (KeepPost w (.slice a0 al ac) v1 n g) := by
  go_enter Yapd.func77, Yapd.ntmps77
  go_wp2_with fail
  refine (unchanged_any w v1 _ n1 n f g H1.out (.inr ⟨b, o, c, rfl, H2.out⟩) (by omega) (by omega)).mono ?_
  rintro e w1 ⟨⟨r, rfl, hr⟩, C1⟩
  have hr' : r = false := by
    cases r
    · rfl
    · exact absurd (hr.1 rfl) Hne.out
  subst hr'
  have HC1 : Hid (Chg No w w1) := C1
  clear C1 hr
  have hmk : (Instr.makeSlice 23 (.int .i64 0) (.int .i64 (2 * (ac : Int)))).run Yapd.prog w1 = .ok (.slice (some ⟨w1.heap.size, 0, none⟩) 0 (2 * ac)) (w1.alloc (.cells (arr (2 * ac) fun _ => 0) 3)) := by
    have := make_ints w1 0 (2 * ac) (Nat.zero_le _) (by omega)
    simpa using this
  go_wp2_with fail
  have hb1 : (w1.alloc (.cells (arr (2 * ac) fun _ => 0) 3)).heap[w1.heap.size]? = some (.cells (arr (2 * ac) fun _ => 0) 3 (0, 0)) := by show (w1.heap.push _)[w1.heap.size]? = _; simp
  have hC2 : Chg No w (w1.alloc (.cells (arr (2 * ac) fun _ => 0) 3)) := HC1.out.alloc _
  rw [load_ints _ b o n g (fun i hi => kcell hC2 (H2.out i hi))]
  simp only [Result.andThen_ok, List.toList_toArray]
  rw [store_ints _ w1.heap.size 0 (2 * ac) n g _ hb1 (arr_size _ _) (by omega)]
  simp only [Result.andThen_ok]
  have HF : Hid (_ ∧ _) := keep_fin (w := w) (V := .slice a0 al ac) (al := 0) (g := g) hC2 hb1 (arr_size _ _) (by omega) (by omega) (.inr ⟨rfl, HC1.out.size, HV.out⟩) n0
  clear hb1 hmk hC2
  generalize (w1.alloc (.cells (arr (2 * ac) fun _ => 0) 3)).setCells w1.heap.size 0 (ints n g) = W3 at *
  generalize w1.heap.size = ab at *
  rw [Nat.zero_add] at HF
  go_wp2_with fail
  refine wp_region_S (fun W => Chg No W3 W) [0, 1, 2, 3, 4, 5, 6, 7, 8, 9] (by kernel_rfl) ?_
  have HS : Chg No W3 W3.drew := (Chg.refl _ _).drew
  refine wpAnyS_take 0 (Value.slice (some ⟨ab, 0, none⟩) n (2 * ac)) rfl (by kernel_rfl) (by kernel_rfl) (by kernel_rfl) (by kernel_rfl) (fun _ _ _ h => h) (by rfl) HS (fun _ _ => rfl) ?_
  simp only [Act.put, List.setIfInBounds_toArray, List.set_cons_zero, List.set_cons_succ]
  refine wpAnyS_take 1 (Value.slice (some ⟨ab, 0, none⟩) n (2 * ac)) rfl (by kernel_rfl) (by kernel_rfl) (by kernel_rfl) (by kernel_rfl) (fun _ _ _ h => h) (by rfl) HS (fun _ _ => rfl) ?_
  simp only [Act.put, List.setIfInBounds_toArray, List.set_cons_zero, List.set_cons_succ]
  refine wpAnyS_take 2 (Value.int .i64 0) rfl (by kernel_rfl) (by kernel_rfl) (by kernel_rfl) (by kernel_rfl) (fun _ _ _ h => h) (by rfl) HS (fun _ _ => rfl) ?_
  simp only [Act.put, List.setIfInBounds_toArray, List.set_cons_zero, List.set_cons_succ]
  refine wpAnyS_take 3 (Value.slice (some ⟨ab, 0, none⟩) n (2 * ac)) rfl (by kernel_rfl) (by kernel_rfl) (by kernel_rfl) (by kernel_rfl) (fun _ _ _ h => h) (by rfl) HS (fun _ _ => rfl) ?_
  simp only [Act.put, List.setIfInBounds_toArray, List.set_cons_zero, List.set_cons_succ]
  refine wpAnyS_take 4 (Value.int .i64 (n : Int)) rfl (by kernel_rfl) (by kernel_rfl) (by kernel_rfl) (by kernel_rfl) (fun _ _ _ h => h) (by rfl) HS (fun _ _ => by kernel_rfl) ?_
  simp only [Act.put, List.setIfInBounds_toArray, List.set_cons_zero, List.set_cons_succ]
  refine wpAnyS_take 5 (Value.slice (some ⟨ab, 0, none⟩) n (2 * ac)) rfl (by kernel_rfl) (by kernel_rfl) (by kernel_rfl) (by kernel_rfl) (fun _ _ _ h => h) (by rfl) HS (fun _ _ => rfl) ?_
  simp only [Act.put, List.setIfInBounds_toArray, List.set_cons_zero, List.set_cons_succ]
  refine wpAnyS_take 6 (Value.int .i64 (n : Int)) rfl (by kernel_rfl) (by kernel_rfl) (by kernel_rfl) (by kernel_rfl) (fun _ _ _ h => h) (by rfl) HS (fun _ _ => by kernel_rfl) ?_
  simp only [Act.put, List.setIfInBounds_toArray, List.set_cons_zero, List.set_cons_succ]
  refine wpAnyS_take 7 (Value.slice (if n = 0 then some (⟨ab, 0, none⟩ : Addr) else Option.map (fun x : Addr => x.add 0) (some (⟨ab, 0, none⟩ : Addr))) (n - 0) (n - 0)) rfl (by kernel_rfl) (by kernel_rfl) (by kernel_rfl) (by kernel_rfl) (fun _ _ _ h => h) (by rfl) HS (fun _ _ => run_slice23 (l := 0) rfl rfl rfl rfl rfl (by omega) (by omega)) ?_
  simp only [Act.put, List.setIfInBounds_toArray, List.set_cons_zero, List.set_cons_succ]
  refine wpAnyS_take 8 (Value.slice (some ⟨ab, 0, none⟩) n (2 * ac)) rfl (by kernel_rfl) (by kernel_rfl) (by kernel_rfl) (by kernel_rfl) (fun _ _ _ h => h) (by rfl) HS (fun _ _ => rfl) ?_
  simp only [Act.put, List.setIfInBounds_toArray, List.set_cons_zero, List.set_cons_succ]
  refine wpAnyS_take 9 (Value.slice (if n = 0 then some (⟨ab, 0, none⟩ : Addr) else Option.map (fun x : Addr => x.add 0) (some (⟨ab, 0, none⟩ : Addr))) (n - 0) (n - 0)) rfl (by kernel_rfl) (by kernel_rfl) (by kernel_rfl) (by kernel_rfl) (fun _ _ _ h => h) (by rfl) HS (fun _ _ => rfl) ?_
  simp only [Act.put, List.setIfInBounds_toArray, List.set_cons_zero, List.set_cons_succ]
  refine wpAnyS_done (by kernel_rfl) ?_
  clear HS
  go_wp2_with fail
  go_ret2
  exact ⟨_, _, rfl, HF.out.1, HF.out.2, .inr fun b o m c h => ab_of h⟩

set_option maxRecDepth 100000 in
set_option maxHeartbeats 1000000 in
theorem keep_newC (w : World) (a0 : Option Addr) (al ac : Nat) (v1 : Value) (n1 n : Nat) (f g : Nat → Int) (HV : Hid (∀ b, AB (.slice a0 al ac) b → b < w.heap.size)) (H1 : Hid (RowAt w v1 n1 f))
    (b o c : Nat) (H2 : Hid (∀ i, i < n → w.cell? ⟨b, o + i, none⟩ = some (.int .i64 (g i)))) (n0 : 0 < n) (hn1 : n1 ≤ 256) (hn : n ≤ 32) (hal : al ≤ ac) (hac : ac ≤ 4096) (hroom : ac < al + n) (Hne : Hid (¬ (n1 = n ∧ ∀ i, i < n1 → f i = g i))) (h : 2048 < 2 * ac) :
    Calls Yapd.prog 77 #[.slice a0 al ac, v1, .slice (some ⟨b, o, none⟩) n c] w (KeepPost w (.slice a0 al ac) v1 n g) := by
  go_enter Yapd.func77, Yapd.ntmps77
  go_wp2_with fail
  refine (unchanged_any w v1 _ n1 n f g H1.out (.inr ⟨b, o, c, rfl, H2.out⟩) (by omega) (by omega)).mono ?_
  rintro e w1 ⟨⟨r, rfl, hr⟩, C1⟩
  have hr' : r = false := by
    cases r
    · rfl
    · exact absurd (hr.1 rfl) Hne.out
  subst hr'
  have HC1 : Hid (Chg No w w1) := C1
  clear C1 hr
  have hmk : (Instr.makeSlice 23 (.int .i64 0) (.int .i64 2048)).run Yapd.prog w1 = .ok (.slice (some ⟨w1.heap.size, 0, none⟩) 0 (2048)) (w1.alloc (.cells (arr (2048) fun _ => 0) 3)) := by
    have := make_ints w1 0 (2048) (Nat.zero_le _) (by omega)
    simpa using this
  go_wp2_with fail
  have hb1 : (w1.alloc (.cells (arr (2048) fun _ => 0) 3)).heap[w1.heap.size]? = some (.cells (arr (2048) fun _ => 0) 3 (0, 0)) := by show (w1.heap.push _)[w1.heap.size]? = _; simp
  have hC2 : Chg No w (w1.alloc (.cells (arr (2048) fun _ => 0) 3)) := HC1.out.alloc _
  rw [load_ints _ b o n g (fun i hi => kcell hC2 (H2.out i hi))]
  simp only [Result.andThen_ok, List.toList_toArray]
  rw [store_ints _ w1.heap.size 0 (2048) n g _ hb1 (arr_size _ _) (by omega)]
  simp only [Result.andThen_ok]
  have HF : Hid (_ ∧ _) := keep_fin (w := w) (V := .slice a0 al ac) (al := 0) (g := g) hC2 hb1 (arr_size _ _) (by omega) (by omega) (.inr ⟨rfl, HC1.out.size, HV.out⟩) n0
  clear hb1 hmk hC2
  generalize (w1.alloc (.cells (arr (2048) fun _ => 0) 3)).setCells w1.heap.size 0 (ints n g) = W3 at *
  generalize w1.heap.size = ab at *
  rw [Nat.zero_add] at HF
  go_wp2_with fail
  refine wp_region_S (fun W => Chg No W3 W) [0, 1, 2, 3, 4, 5, 6, 7, 8, 9] (by kernel_rfl) ?_
  have HS : Chg No W3 W3.drew := (Chg.refl _ _).drew
  refine wpAnyS_take 0 (Value.slice (some ⟨ab, 0, none⟩) n 2048) rfl (by kernel_rfl) (by kernel_rfl) (by kernel_rfl) (by kernel_rfl) (fun _ _ _ h => h) (by rfl) HS (fun _ _ => rfl) ?_
  simp only [Act.put, List.setIfInBounds_toArray, List.set_cons_zero, List.set_cons_succ]
  refine wpAnyS_take 1 (Value.slice (some ⟨ab, 0, none⟩) n 2048) rfl (by kernel_rfl) (by kernel_rfl) (by kernel_rfl) (by kernel_rfl) (fun _ _ _ h => h) (by rfl) HS (fun _ _ => rfl) ?_
  simp only [Act.put, List.setIfInBounds_toArray, List.set_cons_zero, List.set_cons_succ]
  refine wpAnyS_take 2 (Value.int .i64 0) rfl (by kernel_rfl) (by kernel_rfl) (by kernel_rfl) (by kernel_rfl) (fun _ _ _ h => h) (by rfl) HS (fun _ _ => rfl) ?_
  simp only [Act.put, List.setIfInBounds_toArray, List.set_cons_zero, List.set_cons_succ]
  refine wpAnyS_take 3 (Value.slice (some ⟨ab, 0, none⟩) n 2048) rfl (by kernel_rfl) (by kernel_rfl) (by kernel_rfl) (by kernel_rfl) (fun _ _ _ h => h) (by rfl) HS (fun _ _ => rfl) ?_
  simp only [Act.put, List.setIfInBounds_toArray, List.set_cons_zero, List.set_cons_succ]
  refine wpAnyS_take 4 (Value.int .i64 (n : Int)) rfl (by kernel_rfl) (by kernel_rfl) (by kernel_rfl) (by kernel_rfl) (fun _ _ _ h => h) (by rfl) HS (fun _ _ => by kernel_rfl) ?_
  simp only [Act.put, List.setIfInBounds_toArray, List.set_cons_zero, List.set_cons_succ]
  refine wpAnyS_take 5 (Value.slice (some ⟨ab, 0, none⟩) n 2048) rfl (by kernel_rfl) (by kernel_rfl) (by kernel_rfl) (by kernel_rfl) (fun _ _ _ h => h) (by rfl) HS (fun _ _ => rfl) ?_
  simp only [Act.put, List.setIfInBounds_toArray, List.set_cons_zero, List.set_cons_succ]
  refine wpAnyS_take 6 (Value.int .i64 (n : Int)) rfl (by kernel_rfl) (by kernel_rfl) (by kernel_rfl) (by kernel_rfl) (fun _ _ _ h => h) (by rfl) HS (fun _ _ => by kernel_rfl) ?_
  simp only [Act.put, List.setIfInBounds_toArray, List.set_cons_zero, List.set_cons_succ]
  refine wpAnyS_take 7 (Value.slice (if n = 0 then some (⟨ab, 0, none⟩ : Addr) else Option.map (fun x : Addr => x.add 0) (some (⟨ab, 0, none⟩ : Addr))) (n - 0) (n - 0)) rfl (by kernel_rfl) (by kernel_rfl) (by kernel_rfl) (by kernel_rfl) (fun _ _ _ h => h) (by rfl) HS (fun _ _ => run_slice23 (l := 0) rfl rfl rfl rfl rfl (by omega) (by omega)) ?_
  simp only [Act.put, List.setIfInBounds_toArray, List.set_cons_zero, List.set_cons_succ]
  refine wpAnyS_take 8 (Value.slice (some ⟨ab, 0, none⟩) n 2048) rfl (by kernel_rfl) (by kernel_rfl) (by kernel_rfl) (by kernel_rfl) (fun _ _ _ h => h) (by rfl) HS (fun _ _ => rfl) ?_
  simp only [Act.put, List.setIfInBounds_toArray, List.set_cons_zero, List.set_cons_succ]
  refine wpAnyS_take 9 (Value.slice (if n = 0 then some (⟨ab, 0, none⟩ : Addr) else Option.map (fun x : Addr => x.add 0) (some (⟨ab, 0, none⟩ : Addr))) (n - 0) (n - 0)) rfl (by kernel_rfl) (by kernel_rfl) (by kernel_rfl) (by kernel_rfl) (fun _ _ _ h => h) (by rfl) HS (fun _ _ => rfl) ?_
  simp only [Act.put, List.setIfInBounds_toArray, List.set_cons_zero, List.set_cons_succ]
  refine wpAnyS_done (by kernel_rfl) ?_
  clear HS
  go_wp2_with fail
  go_ret2
  exact ⟨_, _, rfl, HF.out.1, HF.out.2, .inr fun b o m c h => ab_of h⟩

set_option maxRecDepth 100000 in
set_option maxHeartbeats 1000000 in
theorem keep_emptyS (w : World) (ab al ac : Nat) (hal : al ≤ ac) (hac : ac ≤ 4096) (v1 : Value) (n1 : Nat) (f g : Nat → Int) (HA : Hid (ArenaAt w (.slice (some ⟨ab, 0, none⟩) al ac))) (H1 : Hid (RowAt w v1 n1 f)) (b o c : Nat)
    (hn1 : n1 ≤ 256) (Hne : Hid (n1 ≠ 0)) :
    Calls Yapd.prog 77 #[.slice (some ⟨ab, 0, none⟩) al ac, v1, .slice (some ⟨b, o, none⟩) 0 c] w (KeepPost w (.slice (some ⟨ab, 0, none⟩) al ac) v1 0 g) := by
  go_enter Yapd.func77, Yapd.ntmps77
  go_wp2_with fail
  refine (unchanged_any w v1 _ n1 0 f g H1.out (.inl ⟨rfl, _, c, rfl⟩) (by omega) (by omega)).mono ?_
  rintro e w1 ⟨⟨r, rfl, hr⟩, C1⟩
  have hr' : r = false := by
    cases r
    · rfl
    · exact absurd (hr.1 rfl).1 Hne.out
  subst hr'
  have HC1 : Hid (Chg No w w1) := C1
  clear C1 hr
  go_wp2_with fail
  refine wp_region_S (fun W => Chg No w1 W) [0, 1, 2, 3, 4, 5, 6, 7, 8, 9] (by kernel_rfl) ?_
  have HS : Chg No w1 w1.drew := (Chg.refl _ _).drew
  refine wpAnyS_take 0 (Value.slice (some ⟨ab, 0, none⟩) al ac) rfl (by kernel_rfl) (by kernel_rfl) (by kernel_rfl) (by kernel_rfl) (fun _ _ _ h => h) (by rfl) HS (fun _ _ => rfl) ?_
  simp only [Act.put, List.setIfInBounds_toArray, List.set_cons_zero, List.set_cons_succ]
  refine wpAnyS_take 1 (Value.slice (some ⟨ab, 0, none⟩) al ac) rfl (by kernel_rfl) (by kernel_rfl) (by kernel_rfl) (by kernel_rfl) (fun _ _ _ h => h) (by rfl) HS (fun _ _ => rfl) ?_
  simp only [Act.put, List.setIfInBounds_toArray, List.set_cons_zero, List.set_cons_succ]
  refine wpAnyS_take 2 (Value.int .i64 (al : Int)) rfl (by kernel_rfl) (by kernel_rfl) (by kernel_rfl) (by kernel_rfl) (fun _ _ _ h => h) (by rfl) HS (fun _ _ => rfl) ?_
  simp only [Act.put, List.setIfInBounds_toArray, List.set_cons_zero, List.set_cons_succ]
  refine wpAnyS_take 3 (Value.slice (some ⟨ab, 0, none⟩) al ac) rfl (by kernel_rfl) (by kernel_rfl) (by kernel_rfl) (by kernel_rfl) (fun _ _ _ h => h) (by rfl) HS (fun _ _ => rfl) ?_
  simp only [Act.put, List.setIfInBounds_toArray, List.set_cons_zero, List.set_cons_succ]
  refine wpAnyS_take 4 (Value.int .i64 (al : Int)) rfl (by kernel_rfl) (by kernel_rfl) (by kernel_rfl) (by kernel_rfl) (fun _ _ _ h => h) (by rfl) HS (fun _ _ => by kernel_rfl) ?_
  simp only [Act.put, List.setIfInBounds_toArray, List.set_cons_zero, List.set_cons_succ]
  refine wpAnyS_take 5 (Value.slice (some ⟨ab, 0, none⟩) al ac) rfl (by kernel_rfl) (by kernel_rfl) (by kernel_rfl) (by kernel_rfl) (fun _ _ _ h => h) (by rfl) HS (fun _ _ => rfl) ?_
  simp only [Act.put, List.setIfInBounds_toArray, List.set_cons_zero, List.set_cons_succ]
  refine wpAnyS_take 6 (Value.int .i64 (al : Int)) rfl (by kernel_rfl) (by kernel_rfl) (by kernel_rfl) (by kernel_rfl) (fun _ _ _ h => h) (by rfl) HS (fun _ _ => by kernel_rfl) ?_
  simp only [Act.put, List.setIfInBounds_toArray, List.set_cons_zero, List.set_cons_succ]
  refine wpAnyS_take 7 (Value.slice (some ⟨ab, 0, none⟩) 0 0) rfl (by kernel_rfl) (by kernel_rfl) (by kernel_rfl) (by kernel_rfl) (fun _ _ _ h => h) (by rfl) HS (fun _ _ => run_slice23e rfl rfl rfl rfl rfl hal) ?_
  simp only [Act.put, List.setIfInBounds_toArray, List.set_cons_zero, List.set_cons_succ]
  refine wpAnyS_take 8 (Value.slice (some ⟨ab, 0, none⟩) al ac) rfl (by kernel_rfl) (by kernel_rfl) (by kernel_rfl) (by kernel_rfl) (fun _ _ _ h => h) (by rfl) HS (fun _ _ => rfl) ?_
  simp only [Act.put, List.setIfInBounds_toArray, List.set_cons_zero, List.set_cons_succ]
  refine wpAnyS_take 9 (Value.slice (some ⟨ab, 0, none⟩) 0 0) rfl (by kernel_rfl) (by kernel_rfl) (by kernel_rfl) (by kernel_rfl) (fun _ _ _ h => h) (by rfl) HS (fun _ _ => rfl) ?_
  simp only [Act.put, List.setIfInBounds_toArray, List.set_cons_zero, List.set_cons_succ]
  refine wpAnyS_done (by kernel_rfl) ?_
  clear HS
  go_wp2_with fail
  go_ret2
  have hk : KeepChg w (.slice (some ⟨ab, 0, none⟩) al ac) w1.drew (.slice (some ⟨ab, 0, none⟩) al ac) := KeepChg.same HA.out HC1.out.drew
  exact ⟨_, _, rfl, hk, .inl ⟨rfl, _, _, rfl⟩, .inr fun b o m c h => by cases h <;> exact ⟨_, _, rfl⟩⟩

set_option maxRecDepth 100000 in
set_option maxHeartbeats 1000000 in
theorem keep_emptyN (w : World) (v1 : Value) (n1 : Nat) (f g : Nat → Int) (HA : Hid (ArenaAt w (.slice none 0 0))) (H1 : Hid (RowAt w v1 n1 f)) (b o c : Nat)
    (hn1 : n1 ≤ 256) (Hne : Hid (n1 ≠ 0)) :
    Calls Yapd.prog 77 #[.slice none 0 0, v1, .slice (some ⟨b, o, none⟩) 0 c] w (KeepPost w (.slice none 0 0) v1 0 g) := by
  go_enter Yapd.func77, Yapd.ntmps77
  go_wp2_with fail
  refine (unchanged_any w v1 _ n1 0 f g H1.out (.inl ⟨rfl, _, c, rfl⟩) (by omega) (by omega)).mono ?_
  rintro e w1 ⟨⟨r, rfl, hr⟩, C1⟩
  have hr' : r = false := by
    cases r
    · rfl
    · exact absurd (hr.1 rfl).1 Hne.out
  subst hr'
  have HC1 : Hid (Chg No w w1) := C1
  clear C1 hr
  go_wp2_with fail
  refine wp_region_S (fun W => Chg No w1 W) [0, 1, 2, 3, 4, 5, 6, 7, 8, 9] (by kernel_rfl) ?_
  have HS : Chg No w1 w1.drew := (Chg.refl _ _).drew
  refine wpAnyS_take 0 (Value.slice none 0 0) rfl (by kernel_rfl) (by kernel_rfl) (by kernel_rfl) (by kernel_rfl) (fun _ _ _ h => h) (by rfl) HS (fun _ _ => rfl) ?_
  simp only [Act.put, List.setIfInBounds_toArray, List.set_cons_zero, List.set_cons_succ]
  refine wpAnyS_take 1 (Value.slice none 0 0) rfl (by kernel_rfl) (by kernel_rfl) (by kernel_rfl) (by kernel_rfl) (fun _ _ _ h => h) (by rfl) HS (fun _ _ => rfl) ?_
  simp only [Act.put, List.setIfInBounds_toArray, List.set_cons_zero, List.set_cons_succ]
  refine wpAnyS_take 2 (Value.int .i64 0) rfl (by kernel_rfl) (by kernel_rfl) (by kernel_rfl) (by kernel_rfl) (fun _ _ _ h => h) (by rfl) HS (fun _ _ => rfl) ?_
  simp only [Act.put, List.setIfInBounds_toArray, List.set_cons_zero, List.set_cons_succ]
  refine wpAnyS_take 3 (Value.slice none 0 0) rfl (by kernel_rfl) (by kernel_rfl) (by kernel_rfl) (by kernel_rfl) (fun _ _ _ h => h) (by rfl) HS (fun _ _ => rfl) ?_
  simp only [Act.put, List.setIfInBounds_toArray, List.set_cons_zero, List.set_cons_succ]
  refine wpAnyS_take 4 (Value.int .i64 0) rfl (by kernel_rfl) (by kernel_rfl) (by kernel_rfl) (by kernel_rfl) (fun _ _ _ h => h) (by rfl) HS (fun _ _ => by kernel_rfl) ?_
  simp only [Act.put, List.setIfInBounds_toArray, List.set_cons_zero, List.set_cons_succ]
  refine wpAnyS_take 5 (Value.slice none 0 0) rfl (by kernel_rfl) (by kernel_rfl) (by kernel_rfl) (by kernel_rfl) (fun _ _ _ h => h) (by rfl) HS (fun _ _ => rfl) ?_
  simp only [Act.put, List.setIfInBounds_toArray, List.set_cons_zero, List.set_cons_succ]
  refine wpAnyS_take 6 (Value.int .i64 0) rfl (by kernel_rfl) (by kernel_rfl) (by kernel_rfl) (by kernel_rfl) (fun _ _ _ h => h) (by rfl) HS (fun _ _ => by kernel_rfl) ?_
  simp only [Act.put, List.setIfInBounds_toArray, List.set_cons_zero, List.set_cons_succ]
  refine wpAnyS_take 7 (Value.slice none 0 0) rfl (by kernel_rfl) (by kernel_rfl) (by kernel_rfl) (by kernel_rfl) (fun _ _ _ h => h) (by rfl) HS (fun _ _ => run_slice23e (n := 0) rfl rfl rfl rfl rfl (Nat.le_refl _)) ?_
  simp only [Act.put, List.setIfInBounds_toArray, List.set_cons_zero, List.set_cons_succ]
  refine wpAnyS_take 8 (Value.slice none 0 0) rfl (by kernel_rfl) (by kernel_rfl) (by kernel_rfl) (by kernel_rfl) (fun _ _ _ h => h) (by rfl) HS (fun _ _ => rfl) ?_
  simp only [Act.put, List.setIfInBounds_toArray, List.set_cons_zero, List.set_cons_succ]
  refine wpAnyS_take 9 (Value.slice none 0 0) rfl (by kernel_rfl) (by kernel_rfl) (by kernel_rfl) (by kernel_rfl) (fun _ _ _ h => h) (by rfl) HS (fun _ _ => rfl) ?_
  simp only [Act.put, List.setIfInBounds_toArray, List.set_cons_zero, List.set_cons_succ]
  refine wpAnyS_done (by kernel_rfl) ?_
  clear HS
  go_wp2_with fail
  go_ret2
  have hk : KeepChg w (.slice none 0 0) w1.drew (.slice none 0 0) := KeepChg.same HA.out HC1.out.drew
  exact ⟨_, _, rfl, hk, .inl ⟨rfl, _, _, rfl⟩, .inr fun b o m c h => by cases h <;> exact ⟨_, _, rfl⟩⟩

/-- keep: the arena and the slice that it gives back hold what s holds; old slices stand. -/
theorem keep_any (w : World) (V v1 : Value) (n1 n b o c : Nat) (f g : Nat → Int) (hA : ArenaAt w V) (h1 : SlS w V v1 n1 f) (h2 : ∀ i, i < n → w.cell? ⟨b, o + i, none⟩ = some (.int .i64 (g i))) (hn1 : n1 ≤ 256) (hn : n ≤ 32) :
    Calls Yapd.prog 77 #[V, v1, .slice (some ⟨b, o, none⟩) n c] w (KeepPost w V v1 n g) := by
  by_cases heq : n1 = n ∧ ∀ i, i < n1 → f i = g i
  · exact keep_same w V v1 _ n1 n f g hA h1 (.inr ⟨b, o, c, rfl, h2⟩) hn1 (by omega) heq
  · by_cases n0 : n = 0
    · subst n0
      have hne : n1 ≠ 0 := fun h => heq ⟨h, fun i hi => by omega⟩
      rcases hA with rfl | ⟨ab, al, ac, cs, rfl, ha, hs, hal, hac⟩
      · exact keep_emptyN w v1 n1 f g (.inl rfl) h1.row b o c hn1 hne
      · exact keep_emptyS w ab al ac hal hac v1 n1 f g (.inr ⟨ab, al, ac, cs, rfl, ha, hs, hal, hac⟩) h1.row b o c hn1 hne
    · rcases hA with rfl | ⟨ab, al, ac, cs, rfl, ha, hs, hal, hac⟩
      · refine keep_newA w none 0 0 v1 n1 n f g (fun b hb => ?_) h1.row b o c h2 (by omega) hn1 hn (Nat.le_refl _) (by omega) (by omega) heq (by omega)
        obtain ⟨al, ac, h⟩ := hb
        cases h
      · have hAB : ∀ b, AB (.slice (some ⟨ab, 0, none⟩) al ac) b → b < w.heap.size := fun b hb => by
          obtain ⟨al', ac', h⟩ := hb
          simp only [Value.slice.injEq, Option.some.injEq, Addr.mk.injEq, and_true] at h
          rw [← h.1]; exact heap_lt ha
        by_cases hroom : al + n ≤ ac
        · exact keep_room w ab al ac cs v1 n1 n f g ha hs h1.row b o c h2 (by omega) hn1 hn hac hroom heq
        · by_cases hA1 : 2 * ac < 32
          · exact keep_newA w _ al ac v1 n1 n f g hAB h1.row b o c h2 (by omega) hn1 hn hal hac (by omega) heq hA1
          · by_cases hB1 : 2 * ac ≤ 2048
            · exact keep_newB w _ al ac v1 n1 n f g hAB h1.row b o c h2 (by omega) hn1 hn hal hac (by omega) heq (by omega) hB1
            · exact keep_newC w _ al ac v1 n1 n f g hAB h1.row b o c h2 (by omega) hn1 hn hal hac (by omega) heq (by omega)
end Go.Proofs.Ygdapg
