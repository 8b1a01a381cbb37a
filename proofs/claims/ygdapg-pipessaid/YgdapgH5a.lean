/-
  observe, plain part: before the first keep.
-/
import Derived.Test.YgdapgH4
import Derived.Deep.MidRow
set_option linter.unusedSimpArgs false
set_option linter.unusedVariables false
namespace Go.Proofs.Ygdapg
open Go.RowKit

theorem HistAt.shape {B : Nat} {w : World} {V mv : Value} {X : Nat → Prop} {n : Nat} {ms : List Mo} {cf : Nat → List Value} (h : HistAt B w V X n mv ms cf) : ∃ mq nq, mv = .slice mq ms.length nq := by
  rcases h.own.2 with ⟨h1, h2⟩ | ⟨g, cap, cur, h1, _⟩
  · exact ⟨none, 0, by rw [h1, h2]⟩
  · exact ⟨_, _, h1⟩

theorem ArenaAt.noS {w w' : World} {V : Value} (h : ArenaAt w V) (hc : Chg No w w') : ArenaAt w' V := h.chgS hc (fun _ _ h => h)

structure Start (B : Nat) (L : Lay) (X : Nat → Prop) (k : KS) (N : Nat) (mv : Value) (ms : List Mo) (cf : Nat → List Value) (w : World) (V : Value) : Prop where
  kat : KAt w L k
  hist : HistAt B w V X N mv ms cf
  arena : ArenaAt w V
  ab : ∀ b, AB V b → B ≤ b ∧ ¬ X b
  hB : B ≤ w.heap.size
  sub : ∀ b, L.mem b → X b
  xlt : ∀ b, X b → b < w.heap.size

theorem AB.lt {w : World} {V : Value} (h : ArenaAt w V) {b : Nat} (hb : AB V b) : b < w.heap.size := by
  obtain ⟨al, ac, rfl⟩ := hb
  rcases h with h | ⟨ab, al', ac', cs, h1, h2, h3⟩
  · cases h
  · simp only [Value.slice.injEq, Option.some.injEq, Addr.mk.injEq] at h1
    rw [h1.1.1]; exact heap_lt h2

theorem Obs.init {B : Nat} {L : Lay} {X : Nat → Prop} {k : KS} {N hb rb mb lb : Nat} {mv : Value} {ms : List Mo} {cf : Nat → List Value} {lv : Nat → Value} {ln : Nat → Nat} {lg : Nat → Nat → Int} {p kd a : Int} {w wX : World} {V : Value}
    (h : Start B L X k N mv ms cf w V) (hc : Chg No w wX) (h1 : w.heap.size ≤ hb) (h2 : w.heap.size ≤ rb) (h3 : w.heap.size ≤ mb) (h4 : w.heap.size ≤ lb)
    (hh : wX.heap[hb]? = some (.cells #[.int .i64 (N : Int), .bool true, mv, V] 32 (0, 0)))
    (hm : wX.heap[mb]? = some (.cells #[.int .i64 p, .int .i64 kd, .int .i64 a, .bool true, .slice none 0 0, .slice none 0 0, .slice none 0 0, .slice none 0 0, .slice none 0 0, .slice none 0 0] 56 (0, 0)))
    (hl : ∀ i, i < 6 → wX.cell? ⟨lb, 4 + i, none⟩ = some (lv i)) (hr : Boxed rb 4 wX) (hq : ∀ i, i < 6 → SlQ w V (XM X mv) (lv i) (ln i) (lg i)) :
    Obs B L X k N hb rb mb lb mv ms cf lv ln lg p kd a 0 wX V (fun _ => .slice none 0 0) := by
  have hx : ∀ b, XB X hb rb mb lb b → X b ∨ w.heap.size ≤ b := fun b hb' => by
    rcases hb' with h | rfl | rfl | rfl | rfl
    · exact .inl h
    · exact .inr h1
    · exact .inr h2
    · exact .inr h3
    · exact .inr h4
  refine ⟨h.kat.chg hc (fun _ _ h => h), hh, hm, hl, hr, h.arena.noS hc, (h.hist.moreX hx).chg hc (fun _ h => h.elim), fun b hab => ⟨(h.ab b hab).1, fun hx' => ?_⟩, fun i hi => ((hq i hi).moreX (fun b hb' => by
      rcases hb' with hb' | hb'
      · rcases hx b hb' with h5 | h5
        · exact .inl (.inl h5)
        · exact .inr h5
      · exact .inl (.inr hb'))).chg hc (fun _ h => h.elim), fun i hi => absurd hi (by omega), Nat.le_trans h.hB hc.size, h.sub, fun b hb' => Nat.lt_of_lt_of_le (h.xlt b hb') hc.size⟩
  rcases hx b hx' with h5 | h5
  · exact (h.ab b hab).2 h5
  · have := AB.lt h.arena hab; omega

theorem Obs.chg {B : Nat} {L : Lay} {X : Nat → Prop} {k : KS} {N hb rb mb lb : Nat} {mv : Value} {ms : List Mo} {cf : Nat → List Value} {lv : Nat → Value} {ln : Nat → Nat} {lg : Nat → Nat → Int} {p kd a : Int} {idx : Nat} {w0 w w' : World} {V V' out : Value} {ov : Nat → Value}
    (h : Obs B L X k N hb rb mb lb mv ms cf lv ln lg p kd a idx w V ov) (hk : KeepChg w.drew V w' V') (hc : Chg (fun b => B ≤ b ∧ ¬ X b) w0 w) (h1 : w0.heap.size ≤ hb) (h3 : w0.heap.size ≤ mb) :
    Chg (fun b => B ≤ b ∧ ¬ X b) w0 ((w'.setCell ⟨hb, 3, none⟩ V').setCell ⟨mb, 4 + idx, none⟩ out) := by
  have e : Chg (fun b => B ≤ b ∧ ¬ X b) w0 w' := (hc.drew).trans (hk.chg.mono fun b hb' => ⟨(h.abx b hb').1, fun hm => (h.abx b hb').2 (.inl hm)⟩)
  exact (e.setCell (.inr h1) _).setCell (.inr h3) _

theorem heap_alloc_new' (w : World) (B : Obj) : (w.alloc B).heap[w.heap.size]? = some B := by
  show (w.heap.push B)[w.heap.size]? = _; simp
theorem al2_new (w : World) (A B : Obj) : ((w.alloc A).alloc B).heap[w.heap.size + 1]? = some B := by
  have h := heap_alloc_new' (w.alloc A) B
  rwa [show (w.alloc A).heap.size = w.heap.size + 1 by simp] at h
theorem al2_old (w : World) (A B : Obj) : ((w.alloc A).alloc B).heap[w.heap.size]? = some A := by
  show ((w.heap.push A).push B)[w.heap.size]? = _
  rw [Array.getElem?_push_lt (by simp)]; simp
theorem al2_lt (w : World) (A B : Obj) {b : Nat} (h : b < w.heap.size) : ((w.alloc A).alloc B).heap[b]? = w.heap[b]? := by
  rw [Below.heap_alloc _ _ _ (by simp; omega), Below.heap_alloc _ _ _ h]

theorem wp_store23 {o : Oper} {a : Act} {W : World} {K : Act → World → Prop} {Q : Exit → Act → World → Prop} {x y : Operand} {b i : Nat} {v u : Value} (ho : o.op = .store 23 x y) (hx : a.eval x = .pointer (some ⟨b, i, none⟩)) (hy : a.eval y = v) (hv : ∃ q m c, v = .slice q m c) (hc : W.cell? ⟨b, i, none⟩ = some u) (hf : W.frozen? ⟨b, i, none⟩ = false)
    (h : K (a.put o.dst undef) (W.setCell ⟨b, i, none⟩ v)) : o.wp Yapd.prog a W K Q := by
  obtain ⟨q, m, c, rfl⟩ := hv
  unfold Oper.wp
  have e : (execOp a.eval o).run Yapd.prog W = .ok .skip (W.setCell ⟨b, i, none⟩ (.slice q m c)) := by
    have := run_storeCells_cells (P := Yapd.prog) b i [.slice q m c] 0 W (fun j hj => by obtain rfl : j = 0 := by simpa using hj
                                                                                         simp [hc]) (fun j hj => by obtain rfl : j = 0 := by simpa using hj
                                                                                                                    simpa using hf) (fun u hu => by simp at hu; subst hu; rfl)
    simp [World.setCells] at this
    simp [execOp, ho, hx, hy, Instr.storeAt, Instr.sureAddr, storeVar, isAgg, run_underlying Yapd.underlying23, Value.cells, this]
  rw [e]
  exact h

theorem ArenaAt.slice {w : World} {V : Value} (h : ArenaAt w V) : ∃ q m c, V = .slice q m c := by
  rcases h with h | ⟨ab, al, ac, cs, h, _⟩ <;> exact ⟨_, _, _, h⟩
theorem SlS.slice {w : World} {V v : Value} {n : Nat} {f : Nat → Int} (h : SlS w V v n f) : ∃ q m c, v = .slice q m c := by
  rcases h with ⟨_, a, c, h⟩ | ⟨b, o, c, h, _⟩ <;> exact ⟨_, _, _, h⟩

/-- The six slices of the last moment. -/
theorem MoAt.six {w : World} {V : Value} {X : Nat → Prop} {n : Nat} {cs : List Value} {m : Mo} (h : MoAt w V X n cs m) (hn : n ≤ 32) : ∃ (lv : Nat → Value) (ln : Nat → Nat) (lg : Nat → Nat → Int), cs = [.int .i64 m.p, .int .i64 m.kd, .int .i64 m.a, .bool true, lv 0, lv 1, lv 2, lv 3, lv 4, lv 5] ∧
    (∀ i, i < 6 → SlQ w V X (lv i) (ln i) (lg i)) ∧ ∀ i, i < 6 → (∃ a m c, lv i = .slice a m c) ∧ ln i ≤ 256 := by
  obtain ⟨v1, v2, v3, v4, v5, v6, rfl, h1, h2, h3, h4, h5, h6, h7⟩ := h
  have hq : ∀ i, i < 6 → SlQ w V X ((fun | 0 => v1 | 1 => v2 | 2 => v3 | 3 => v4 | 4 => v5 | _ => v6 : Nat → Value) i) ((fun | 0 | 1 | 2 | 3 => n | 4 => m.pipe.length | _ => m.pipe2.length : Nat → Nat) i) ((fun | 0 => m.st | 1 => m.wo | 2 => m.su | 3 => m.acc | 4 => lf m.pipe | _ => lf m.pipe2 : Nat → Nat → Int) i) := fun i hi => by
    match i, hi with
    | 0, _ => exact h1
    | 1, _ => exact h2
    | 2, _ => exact h3
    | 3, _ => exact h4
    | 4, _ => exact h5
    | 5, _ => exact h6
  refine ⟨_, _, _, rfl, hq, fun i hi => ?_⟩
  refine ⟨(hq i hi).sls.slice, ?_⟩
  match i, hi with
  | 0, _ | 1, _ | 2, _ | 3, _ => show n ≤ 256; omega
  | 4, _ => show m.pipe.length ≤ 256; omega
  | 5, _ => show m.pipe2.length ≤ 256; omega

section
variable {B : Nat} {L : Lay} {X : Nat → Prop} {k : KS} {N hb rb mb lb : Nat} {mv : Value} {ms : List Mo} {cf : Nat → List Value} {lv : Nat → Value} {ln : Nat → Nat} {lg : Nat → Nat → Int} {p kd a : Int} {idx : Nat} {w w' : World} {V V' out : Value} {ov : Nat → Value}
theorem Obs.keep (h : Obs B L X k N hb rb mb lb mv ms cf lv ln lg p kd a idx w V ov) (hi : idx < 6) (hl : ln idx ≤ 256) (c : Nat) :
    Calls Yapd.prog 77 #[V, lv idx, .slice (some ⟨fB L idx, 0, none⟩) (fN k idx) c] w.drew (KeepPost w.drew V (lv idx) (fN k idx) (fF k idx)) :=
  keep_any w.drew V (lv idx) (ln idx) (fN k idx) (fB L idx) 0 c (lg idx) (fF k idx) h.arena (h.lsl idx hi).sls (h.kat.fld idx hi).2 hl (h.kat.fld idx hi).1
theorem Obs.keptCell (h : Obs B L X k N hb rb mb lb mv ms cf lv ln lg p kd a idx w V ov) (hk : KeepChg w.drew V w' V') {b i : Nat} {u : Value} (hx : XB X hb rb mb lb b) (hc : w.cell? ⟨b, i, none⟩ = some u) : w'.cell? ⟨b, i, none⟩ = some u := by
  rw [hk.chg.cell (p := ⟨b, i, none⟩) (cell_lt (w := w) hc) (fun hab => (h.abx b hab).2 hx)]; exact hc
theorem Obs.keptHeap (h : Obs B L X k N hb rb mb lb mv ms cf lv ln lg p kd a idx w V ov) (hk : KeepChg w.drew V w' V') {b : Nat} {u : Obj} (hx : XB X hb rb mb lb b) (hc : w.heap[b]? = some u) : w'.heap[b]? = some u := by
  rw [hk.chg.block b (heap_lt (w := w) hc) (fun hab => (h.abx b hab).2 hx)]; exact hc
theorem Obs.v3 (h : Obs B L X k N hb rb mb lb mv ms cf lv ln lg p kd a idx w V ov) : w.cell? ⟨hb, 3, none⟩ = some V := by rw [cell_of h.hbox]; rfl
theorem Obs.m4 (h : Obs B L X k N hb rb mb lb mv ms cf lv ln lg p kd a idx w V ov) (hi : idx < 6) : w.cell? ⟨mb, 4 + idx, none⟩ = some (ov idx) := by
  rw [cell_of h.mbox]
  have h : idx = 0 ∨ idx = 1 ∨ idx = 2 ∨ idx = 3 ∨ idx = 4 ∨ idx = 5 := by omega
  rcases h with rfl | rfl | rfl | rfl | rfl | rfl <;> rfl
theorem Obs.hbm (h : Obs B L X k N hb rb mb lb mv ms cf lv ln lg p kd a idx w V ov) : w.cell? ⟨hb, 2, none⟩ = some mv := by rw [cell_of h.hbox]; rfl
end

/-- What observe leaves. -/
def ObsPost (B : Nat) (L : Lay) (X : Nat → Prop) (k : KS) (N : Nat) (ms : List Mo) (m : Mo) (w : World) (e : Ending) (w' : World) : Prop :=
  ∃ mv V cf, e = .returned (.agg #[.int .i64 (N : Int), .bool true, mv, V]) ∧ Start B L X k N mv (ms ++ [m]) cf w' V ∧ Chg (fun b => B ≤ b ∧ ¬ X b) w w'

theorem grown_chg {w w' : World} {row : Option Nat} (h : w.grownBy w' row) : Chg (fun b => row = some b) w w' :=
  ⟨h.os, h.tape, h.output, h.size, fun b hb hn => h.block b hb fun e => hn e.symm⟩

def cfs (cf : Nat → List Value) (M : Nat) (cs : List Value) : Nat → List Value := fun i => if i = M then cs else cf i
theorem cfs_flat (cf : Nat → List Value) (M : Nat) (cs : List Value) : (List.range M).flatMap cf ++ cs = (List.range (M + 1)).flatMap (cfs cf M cs) := by
  rw [List.range_succ, List.flatMap_append]
  congr 1
  · rw [List.flatMap_def, List.flatMap_def]
    congr 1
    apply List.map_congr_left
    intro i hi
    have := List.mem_range.1 hi
    simp [cfs]; intro h; omega
  · simp [cfs]

section
variable {B : Nat} {L : Lay} {X : Nat → Prop} {k : KS} {N hb rb mb lb : Nat} {mv : Value} {ms : List Mo} {cf : Nat → List Value} {lv : Nat → Value} {ln : Nat → Nat} {lg : Nat → Nat → Int} {p kd a : Int} {idx : Nat} {w0 w w1 w7 : World} {V V' out : Value} {ov : Nat → Value}
theorem HistAt.ownB {X : Nat → Prop} (h : HistAt B w V X N mv ms cf) {g : Nat} (hg : mv.ownBlock = some g) : B ≤ g := by
  rcases h.own.2 with ⟨h2, _⟩ | ⟨g', cap, cur, h2, h3, _⟩
  · rw [h2] at hg; cases hg
  · rw [h2] at hg
    obtain rfl : g' = g := by simpa [Value.ownBlock] using hg
    exact h3

theorem Obs.grown (h : Obs B L X k N hb rb mb lb mv ms cf lv ln lg p kd a idx w V ov) {o : Obj} (hg : (w.alloc o).grownBy w1 mv.ownBlock) :
    w1.heap[hb]? = some (.cells #[.int .i64 (N : Int), .bool true, mv, V] 32 (0, 0)) ∧ Boxed rb 4 w1 := by
  have ne : ∀ b, XB X hb rb mb lb b → some b ≠ mv.ownBlock := fun b hx e => (h.hist.off b e.symm).1 hx
  have lth : hb < w.heap.size := heap_lt h.hbox
  constructor
  · rw [hg.block hb (by simp; omega) (ne hb (.inr (.inl rfl))), Below.heap_alloc _ _ _ lth]; exact h.hbox
  · obtain ⟨cs, e, h1, h2⟩ := h.rbox
    exact ⟨cs, e, by rw [hg.block rb (by have := heap_lt h1; simp; omega) (ne rb (.inr (.inr (.inl rfl)))), Below.heap_alloc _ _ _ (heap_lt h1)]; exact h1, h2⟩

theorem Obs.fin (h : Obs B L X k N hb rb mb lb mv ms cf lv ln lg p kd a 6 w V ov) (bx : Boxes X hb rb mb lb) (hn : k.n = N) (hc : Chg (fun b => B ≤ b ∧ ¬ X b) w0 w) (hB0 : B ≤ w0.heap.size) {o : Obj} {g cap : Nat} {cs : List Value}
    (hcs : cs = [.int .i64 p, .int .i64 kd, .int .i64 a, .bool true, ov 0, ov 1, ov 2, ov 3, ov 4, ov 5])
    (hown : w1.ownsRow B 56 10 (.slice (some ⟨g, 0, none⟩) (ms.length + 1) cap) (ms.length + 1) ((List.range ms.length).flatMap cf ++ cs))
    (hg : (w.alloc o).grownBy w1 mv.ownBlock) (hat : mv.ownBlock = some g ∨ g = w.heap.size + 1) (h1 : w0.heap.size ≤ hb) (h2 : w0.heap.size ≤ rb) (h7 : Chg (fun b => b = hb ∨ b = rb) w1 w7) :
    Start B L X k N (.slice (some ⟨g, 0, none⟩) (ms.length + 1) cap) (ms ++ [⟨p, kd, a, k.st, k.wo, k.su, k.acc, k.pipe, k.pipe2⟩]) (cfs cf ms.length cs) w7 V ∧ Chg (fun b => B ≤ b ∧ ¬ X b) w0 w7 := by
  have C : Chg (fun b => mv.ownBlock = some b ∨ b = hb ∨ b = rb) w w7 := (((Chg.refl _ w).alloc o).trans ((grown_chg hg).mono fun b hb' => .inl hb')).trans (h7.mono fun b hb' => .inr hb')
  have lth : hb < w.heap.size := heap_lt h.hbox
  have ltr : rb < w.heap.size := by obtain ⟨cs, e, h1, _⟩ := h.rbox; exact heap_lt h1
  have gx : ¬ XB X hb rb mb lb g ∨ w.heap.size < g := by
    rcases hat with h3 | h3
    · exact .inl (h.hist.off g h3).1
    · exact .inr (by omega)
  have ghr : ¬ (g = hb ∨ g = rb) := fun h3 => by
    rcases gx with h4 | h4
    · rcases h3 with rfl | rfl
      · exact h4 (.inr (.inl rfl))
      · exact h4 (.inr (.inr (.inl rfl)))
    · omega
  have SX : ∀ b, (mv.ownBlock = some b ∨ b = hb ∨ b = rb) → XM (XB X hb rb mb lb) mv b := fun b hb' => by
    rcases hb' with h3 | rfl | rfl
    · exact .inr h3
    · exact .inl (.inr (.inl rfl))
    · exact .inl (.inr (.inr (.inl rfl)))
  have slq : ∀ v n f, SlQ w V (XM (XB X hb rb mb lb) mv) v n f → SlQ w7 V (XM X (.slice (some ⟨g, 0, none⟩) (ms.length + 1) cap)) v n f := fun v n f hq => by
    have q1 : SlQ w V (fun b => XM (XB X hb rb mb lb) mv b ∨ b = g) v n f := hq.moreX fun b hb' => by
      rcases hb' with h3 | rfl
      · exact .inl h3
      · rcases hat with h4 | h4
        · exact .inl (.inr h4)
        · exact .inr (by omega)
    exact (q1.chg C (fun b hb' => .inl (SX b hb'))).moreX fun b hb' => by
      rcases hb' with h3 | h3
      · exact .inl (.inl (.inl (.inl h3)))
      · have e : g = b := by simpa [Value.ownBlock] using h3
        exact .inl (.inr e.symm)
  refine ⟨⟨h.kat.chg C ?_, ⟨?_, ?_, ?_⟩, h.arena.chgS C ?_, fun b hab => ⟨(h.abx b hab).1, fun hm => (h.abx b hab).2 (.inl hm)⟩, Nat.le_trans h.hB C.size, h.sub, fun b hb' => Nat.lt_of_lt_of_le (h.xlt b hb') C.size⟩, hc.trans (C.mono ?_)⟩
  · rintro b hm (h3 | rfl | rfl)
    · exact (h.hist.off b h3).1 (.inl (h.sub b hm))
    · exact bx.h (h.sub b hm)
    · exact bx.r (h.sub b hm)
  · rw [List.length_append]
    show w7.ownsRow B 56 10 _ (ms.length + 1) ((List.range (ms.length + 1)).flatMap _)
    rw [← cfs_flat]
    refine ownsRow_of_block hown fun g' hg' hlt' => h7.block g' hlt' ?_
    have e : g = g' := by simpa [Value.ownBlock] using hg'
    rw [← e]; exact ghr
  · intro i m hm
    by_cases hi : i < ms.length
    · rw [List.getElem?_append_left hi] at hm
      have e : cfs cf ms.length cs i = cf i := by simp only [cfs]; rw [if_neg (by omega)]
      rw [e]
      exact (h.hist.mo i m hm).imp slq
    · have hi2 : i = ms.length := by
        have := (List.getElem?_eq_some_iff.1 hm).1
        simp at this; omega
      subst hi2
      simp at hm
      subst hm
      have e : cfs cf ms.length cs ms.length = cs := by simp [cfs]
      rw [e]
      have q : ∀ i, i < 6 → SlQ w7 V (XM X (.slice (some ⟨g, 0, none⟩) (ms.length + 1) cap)) (ov i) (fN k i) (fF k i) := fun i hi => slq _ _ _ (h.osl i hi)
      have h3 := h.kat.hp
      have h4 := h.kat.hq
      subst hn
      exact ⟨_, _, _, _, _, _, hcs, q 0 (by omega), q 1 (by omega), q 2 (by omega), q 3 (by omega), q 4 (by omega), q 5 (by omega), by simpa using h3, by simpa using h4⟩
  · intro g' hg'
    have e : g = g' := by simpa [Value.ownBlock] using hg'
    subst e
    rcases hat with h3 | h3
    · exact ⟨fun hm => (h.hist.off g h3).1 (.inl hm), (h.hist.off g h3).2⟩
    · exact ⟨fun hm => by have := h.xlt g hm; omega, fun hab => by have := AB.lt h.arena hab; omega⟩
  · rintro b hab (h3 | rfl | rfl)
    · exact (h.hist.off b h3).2 hab
    · exact (h.abx b hab).2 (.inr (.inl rfl))
    · exact (h.abx b hab).2 (.inr (.inr (.inl rfl)))
  · rintro b (h3 | rfl | rfl)
    · exact ⟨h.hist.ownB h3, fun hm => (h.hist.off b h3).1 (.inl hm)⟩
    · exact ⟨by omega, bx.h⟩
    · exact ⟨by omega, bx.r⟩
end
end Go.Proofs.Ygdapg
