/-
  observe, plain part: what stands between two calls of keep.
-/
import Derived.Test.YgdapgH3
import Derived.Test.YgdapgE4
set_option linter.unusedSimpArgs false
set_option linter.unusedVariables false
namespace Go.Proofs.Ygdapg
open Go.RowKit

/-- The six slices of a moment: their lengths, their numbers, the kernel's blocks. -/
def fN (k : KS) : Nat → Nat
  | 0 | 1 | 2 | 3 => k.n
  | 4 => k.pipe.length
  | _ => k.pipe2.length
def fF (k : KS) : Nat → Nat → Int
  | 0 => k.st
  | 1 => k.wo
  | 2 => k.su
  | 3 => k.acc
  | 4 => lf k.pipe
  | _ => lf k.pipe2
def fB (L : Lay) : Nat → Nat
  | 0 => L.s
  | 1 => L.o
  | 2 => L.u
  | 3 => L.a
  | 4 => L.p
  | _ => L.q

theorem KAt.fld {w : World} {L : Lay} {k : KS} (h : KAt w L k) (i : Nat) (hi : i < 6) : fN k i ≤ 32 ∧ ∀ j, j < fN k i → w.cell? ⟨fB L i, 0 + j, none⟩ = some (.int .i64 (fF k i j)) := by
  have h1 := h.hn
  have h2 := h.hp
  have h3 := h.hq
  match i, hi with
  | 0, _ => exact ⟨by simp [fN]; omega, fun j hj => by rw [Nat.zero_add]; exact h.cs hj⟩
  | 1, _ => exact ⟨by simp [fN]; omega, fun j hj => by rw [Nat.zero_add]; exact h.co hj⟩
  | 2, _ => exact ⟨by simp [fN]; omega, fun j hj => by rw [Nat.zero_add]; exact h.cu hj⟩
  | 3, _ => exact ⟨by simp [fN]; omega, fun j hj => by rw [Nat.zero_add]; exact h.ca hj⟩
  | 4, _ => exact ⟨by simp [fN]; omega, fun j hj => by rw [Nat.zero_add]; exact h.p.cell hj⟩
  | 5, _ => exact ⟨by simp [fN]; omega, fun j hj => by rw [Nat.zero_add]; exact h.q.cell hj⟩

/-- The boxes of observe's own, and the kernel. -/
def XB (X : Nat → Prop) (hb rb mb lb : Nat) (b : Nat) : Prop := X b ∨ b = hb ∨ b = rb ∨ b = mb ∨ b = lb

structure Boxes (X : Nat → Prop) (hb rb mb lb : Nat) : Prop where
  hr : hb ≠ rb
  hm : hb ≠ mb
  hl : hb ≠ lb
  rm : rb ≠ mb
  rl : rb ≠ lb
  ml : mb ≠ lb
  h : ¬ X hb
  r : ¬ X rb
  m : ¬ X mb
  l : ¬ X lb

structure Obs (B : Nat) (L : Lay) (X : Nat → Prop) (k : KS) (N hb rb mb lb : Nat) (mv : Value) (ms : List Mo) (cf : Nat → List Value) (lv : Nat → Value) (ln : Nat → Nat) (lg : Nat → Nat → Int) (p kd a : Int) (idx : Nat) (w : World) (V : Value) (ov : Nat → Value) : Prop where
  kat : KAt w L k
  hbox : w.heap[hb]? = some (.cells #[.int .i64 (N : Int), .bool true, mv, V] 32 (0, 0))
  mbox : w.heap[mb]? = some (.cells #[.int .i64 p, .int .i64 kd, .int .i64 a, .bool true, ov 0, ov 1, ov 2, ov 3, ov 4, ov 5] 56 (0, 0))
  lbox : ∀ i, i < 6 → w.cell? ⟨lb, 4 + i, none⟩ = some (lv i)
  rbox : Boxed rb 4 w
  arena : ArenaAt w V
  hist : HistAt B w V (XB X hb rb mb lb) N mv ms cf
  abx : ∀ b, AB V b → B ≤ b ∧ ¬ XB X hb rb mb lb b
  lsl : ∀ i, i < 6 → SlQ w V (XM (XB X hb rb mb lb) mv) (lv i) (ln i) (lg i)
  osl : ∀ i, i < idx → SlQ w V (XM (XB X hb rb mb lb) mv) (ov i) (fN k i) (fF k i)
  hB : B ≤ w.heap.size
  sub : ∀ b, L.mem b → X b
  xlt : ∀ b, X b → b < w.heap.size

def vset (f : Nat → Value) (i : Nat) (v : Value) : Nat → Value := fun j => if j = i then v else f j

theorem SlS.both {w : World} {V v : Value} {X : Nat → Prop} {n n' : Nat} {f f' : Nat → Int} (h : SlS w V v n f) (hq : SlQ w V X v n' f') : SlQ w V X v n f := by
  rcases h with h | ⟨b, o, c, rfl, h⟩
  · exact .inl h
  · rcases hq with ⟨rfl, a, c', e⟩ | ⟨b', o', c', e, hx, _⟩
    · simp only [Value.slice.injEq] at e
      exact .inl ⟨e.2.1, _, _, by rw [e.2.1]⟩
    · simp only [Value.slice.injEq, Option.some.injEq, Addr.mk.injEq, and_true] at e
      obtain ⟨⟨rfl, rfl⟩, _⟩ := e
      exact .inr ⟨b, o, c, rfl, hx, h⟩

theorem ArenaAt.chgS {w w' : World} {V : Value} {S : Nat → Prop} (h : ArenaAt w V) (hc : Chg S w w') (hs : ∀ b, AB V b → ¬ S b) : ArenaAt w' V := by
  rcases h with h | ⟨ab, al, ac, cs, h1, h2, h3⟩
  · exact .inl h
  · exact .inr ⟨ab, al, ac, cs, h1, by rw [hc.block ab (heap_lt h2) (hs ab ⟨al, ac, h1⟩)]; exact h2, h3⟩

theorem heap_set2 {w : World} {b i b2 i2 : Nat} {v v2 : Value} {cs : Array Value} {e : TypeId} (h : w.heap[b]? = some (.cells cs e (0, 0))) (hne : b ≠ b2) :
    ((w.setCell ⟨b, i, none⟩ v).setCell ⟨b2, i2, none⟩ v2).heap[b]? = some (.cells (cs.setIfInBounds i v) e (0, 0)) := by
  rw [heap_set_ne hne]; exact heap_set_same h

theorem mset (c0 c1 c2 c3 : Value) (ov : Nat → Value) (idx : Nat) (hi : idx < 6) (out : Value) :
    (#[c0, c1, c2, c3, ov 0, ov 1, ov 2, ov 3, ov 4, ov 5] : Array Value).setIfInBounds (4 + idx) out = #[c0, c1, c2, c3, vset ov idx out 0, vset ov idx out 1, vset ov idx out 2, vset ov idx out 3, vset ov idx out 4, vset ov idx out 5] := by
  have h : idx = 0 ∨ idx = 1 ∨ idx = 2 ∨ idx = 3 ∨ idx = 4 ∨ idx = 5 := by omega
  rcases h with rfl | rfl | rfl | rfl | rfl | rfl <;> simp [vset]

set_option maxHeartbeats 1000000 in
theorem Obs.step {B : Nat} {L : Lay} {X : Nat → Prop} {k : KS} {N hb rb mb lb : Nat} {mv : Value} {ms : List Mo} {cf : Nat → List Value} {lv : Nat → Value} {ln : Nat → Nat} {lg : Nat → Nat → Int} {p kd a : Int} {idx : Nat} {w w' : World} {V V' out : Value} {ov : Nat → Value}
    (h : Obs B L X k N hb rb mb lb mv ms cf lv ln lg p kd a idx w V ov) (bx : Boxes X hb rb mb lb) (hi : idx < 6) (hk : KeepChg w.drew V w' V') (hs : SlS w' V' out (fN k idx) (fF k idx))
    (ho : out = lv idx ∨ ∀ b o m c, out = .slice (some ⟨b, o, none⟩) m c → AB V' b) :
    Obs B L X k N hb rb mb lb mv ms cf lv ln lg p kd a (idx + 1) ((w'.setCell ⟨hb, 3, none⟩ V').setCell ⟨mb, 4 + idx, none⟩ out) V' (vset ov idx out) := by
  have hxb : ∀ b, XB X hb rb mb lb b → ¬ AB V b := fun b hx hab => (h.abx b hab).2 hx
  have lth : hb < w.heap.size := heap_lt h.hbox
  have ltm : mb < w.heap.size := heap_lt h.mbox
  have ltl : lb < w.heap.size := cell_lt (h.lbox 0 (by omega))
  have ltr : rb < w.heap.size := by obtain ⟨cs, e, h1, _⟩ := h.rbox; exact heap_lt h1
  have hb1 : w'.heap[hb]? = w.heap[hb]? := hk.chg.block hb lth (hxb hb (.inr (.inl rfl)))
  have mb1 : w'.heap[mb]? = w.heap[mb]? := hk.chg.block mb ltm (hxb mb (.inr (.inr (.inr (.inl rfl)))))
  have lb1 : w'.heap[lb]? = w.heap[lb]? := hk.chg.block lb ltl (hxb lb (.inr (.inr (.inr (.inr rfl)))))
  have rb1 : w'.heap[rb]? = w.heap[rb]? := hk.chg.block rb ltr (hxb rb (.inr (.inr (.inl rfl))))
  have abx' : ∀ b, AB V' b → B ≤ b ∧ ¬ XB X hb rb mb lb b := fun b hab => by
    rcases hk.ab b hab with h1 | h1
    · exact h.abx b h1
    · have h1' : w.heap.size ≤ b := h1
      refine ⟨Nat.le_trans h.hB h1', fun hx => ?_⟩
      rcases hx with hx | rfl | rfl | rfl | rfl
      · have := h.xlt b hx; omega
      · omega
      · omega
      · omega
      · omega
  have hc2 : Chg (fun b => b = hb ∨ b = mb) w' ((w'.setCell ⟨hb, 3, none⟩ V').setCell ⟨mb, 4 + idx, none⟩ out) := ((Chg.refl _ _).setCell (.inl (.inl rfl)) _).setCell (.inl (.inr rfl)) _
  have hsx : ∀ b, (b = hb ∨ b = mb) → XB X hb rb mb lb b := fun b hb' => by
    rcases hb' with rfl | rfl
    · exact .inr (.inl rfl)
    · exact .inr (.inr (.inr (.inl rfl)))
  have slq : ∀ v n f, SlQ w V (XM (XB X hb rb mb lb) mv) v n f → SlQ ((w'.setCell ⟨hb, 3, none⟩ V').setCell ⟨mb, 4 + idx, none⟩ out) V' (XM (XB X hb rb mb lb) mv) v n f := fun v n f hq =>
    SlQ.chg (SlQ.kept (w := w.drew) hq hk) hc2 fun b hb' => .inl (hsx b hb')
  refine ⟨?_, ?_, ?_, fun i hi6 => ?_, ?_, ?_, ?_, abx', fun i hi6 => slq _ _ _ (h.lsl i hi6), fun i hi7 => ?_, ?_, h.sub, fun b hb' => Nat.lt_of_lt_of_le (h.xlt b hb') (Nat.le_trans hk.chg.size hc2.size)⟩
  · exact ((h.kat.drew.chg hk.chg (fun b hb' => hxb b (.inl (h.sub b hb')))).setOther (fun h' => bx.h (h.sub _ h')) _).setOther (fun h' => bx.m (h.sub _ h')) _
  · rw [heap_set2 (hb1.trans h.hbox) bx.hm]; rfl
  · have e : ((w'.setCell ⟨hb, 3, none⟩ V').setCell ⟨mb, 4 + idx, none⟩ out).heap[mb]? = _ := heap_set_same (by rw [heap_set_ne (Ne.symm bx.hm)]; exact mb1.trans h.mbox)
    rw [e, mset _ _ _ _ ov idx hi out]
  · rw [World.cell?_of_block (w := w') (a := ⟨lb, 4 + i, none⟩) (by show ((w'.setCell ⟨hb, 3, none⟩ V').setCell ⟨mb, 4 + idx, none⟩ out).heap[lb]? = _; rw [heap_set_ne (Ne.symm bx.ml), heap_set_ne (Ne.symm bx.hl)]),
      World.cell?_of_block (w := w) (a := ⟨lb, 4 + i, none⟩) lb1]
    exact h.lbox i hi6
  · obtain ⟨cs, e, h1, h2⟩ := h.rbox
    exact ⟨cs, e, by rw [heap_set_ne bx.rm, heap_set_ne (Ne.symm bx.hr), rb1]; exact h1, h2⟩
  · exact hk.arena.chgS hc2 (fun b hab hs => (abx' b hab).2 (hsx b hs))
  · exact HistAt.chg (HistAt.kept (w := w.drew) ⟨h.hist.own, h.hist.mo, h.hist.off⟩ hk) hc2 hsx
  · by_cases e : i = idx
    · subst e
      simp only [vset, if_true]
      refine SlQ.chg (w := w') ?_ hc2 fun b hb' => .inl (hsx b hb')
      rcases ho with rfl | ho
      · exact hs.both (SlQ.kept (w := w.drew) (h.lsl i hi) hk)
      · exact hs.slq fun b o m c hv hx => by
          rcases hx with hx | hx
          · exact (abx' b (ho b o m c hv)).2 hx
          · exact ((HistAt.kept (w := w.drew) ⟨h.hist.own, h.hist.mo, h.hist.off⟩ hk).off b hx).2 (ho b o m c hv)
    · simp only [vset, if_neg e]
      exact slq _ _ _ (h.osl i (by omega))
  · exact Nat.le_trans h.hB (Nat.le_trans hk.chg.size hc2.size)
end Go.Proofs.Ygdapg
