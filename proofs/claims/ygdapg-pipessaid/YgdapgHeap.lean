/-
  THE KERNEL IN MEMORY: a plain record of the kernel's state, where it lies ('Lay'), that it lies there ('KAt'), and what a step of the world leaves alone ('Chg').
-/
import Derived.Test.YgdapgRows
import Derived.WalkKit
import Derived.WalkSpells
import Derived.WalkLawsBesides
set_option linter.unusedSimpArgs false
set_option linter.unusedVariables false
namespace Go.Proofs.Ygdapg
open Go.RowKit

/-- A table of numbers with one entry turned. -/
def upd (f : Nat → Int) (p : Nat) (v : Int) : Nat → Int := fun i => if i = p then v else f i

theorem upd_same (f : Nat → Int) (p : Nat) (v : Int) : upd f p v p = v := by simp [upd]
theorem upd_ne (f : Nat → Int) {p i : Nat} (v : Int) (h : i ≠ p) : upd f p v i = f i := by simp [upd, h]

/-- The kernel's state. -/
structure KS where
  n : Nat
  st : Nat → Int
  pc : Nat → Int
  acc : Nat → Int
  wo : Nat → Int
  su : Nat → Int
  pipe : List Int
  pipe2 : List Int
  last : Int
  ticks : Int
  trace : List Int

/-- The numbers f 0 .. f (n-1) as cells. -/
def arr (n : Nat) (f : Nat → Int) : Array Value := ((List.range n).map fun i => Value.int .i64 (f i)).toArray

theorem arr_size (n : Nat) (f : Nat → Int) : (arr n f).size = n := by simp [arr]
theorem arr_get {n i : Nat} (f : Nat → Int) (h : i < n) : (arr n f)[i]? = some (.int .i64 (f i)) := by simp [arr, h]
theorem arr_set (n p : Nat) (f : Nat → Int) (v : Int) : (arr n f).setIfInBounds p (.int .i64 v) = arr n (upd f p v) := by
  apply Array.ext
  · simp [arr]
  · intro i h1 h2
    have hi : i < n := by simpa [arr] using h2
    by_cases hp : p = i
    · subst hp; simp [arr, upd]
    · have hp' : i ≠ p := fun h => hp h.symm
      simp [arr, upd, hp, hp']
theorem arr_congr {n : Nat} {f g : Nat → Int} (h : ∀ i, i < n → f i = g i) : arr n f = arr n g := by
  unfold arr
  congr 1
  refine List.map_congr_left fun i hi => ?_
  rw [h i (by simpa using hi)]

/-- Where the kernel lies: nine blocks. -/
structure Lay where
  kb : Nat
  s : Nat
  c : Nat
  a : Nat
  o : Nat
  u : Nat
  p : Nat
  q : Nat
  t : Nat

def Lay.list (L : Lay) : List Nat := [L.kb, L.s, L.c, L.a, L.o, L.u, L.p, L.q, L.t]
def Lay.mem (L : Lay) (b : Nat) : Prop := b ∈ L.list

def sl (b n c : Nat) : Value := .slice (some ⟨b, 0, none⟩) n c

/-- The block b holds the list l in its first cells; it has size cells. -/
def Buf (w : World) (b size : Nat) (l : List Int) : Prop :=
  ∃ cs : Array Value, w.heap[b]? = some (.cells cs 3 (0, 0)) ∧ cs.size = size ∧ ∀ i, i < l.length → cs[i]? = some (.int .i64 (l.getD i 0))

structure KAt (w : World) (L : Lay) (k : KS) : Prop where
  nodup : L.list.Nodup
  hn : k.n ≤ 8
  hp : k.pipe.length ≤ 3
  hq : k.pipe2.length ≤ 3
  ht : k.trace.length ≤ 256
  kb : w.heap[L.kb]? = some (.cells #[.slice (some ⟨L.s, 0, none⟩) k.n k.n, .slice (some ⟨L.c, 0, none⟩) k.n k.n, .slice (some ⟨L.a, 0, none⟩) k.n k.n,
      .slice (some ⟨L.o, 0, none⟩) k.n k.n, .slice (some ⟨L.u, 0, none⟩) k.n k.n, .slice (some ⟨L.p, 0, none⟩) k.pipe.length 3,
      .slice (some ⟨L.q, 0, none⟩) k.pipe2.length 3, .int .i64 k.last, .int .i64 k.ticks, .slice (some ⟨L.t, 0, none⟩) k.trace.length 256] 73 (0, 0))
  s : w.heap[L.s]? = some (.cells (arr k.n k.st) 3 (0, 0))
  c : w.heap[L.c]? = some (.cells (arr k.n k.pc) 3 (0, 0))
  a : w.heap[L.a]? = some (.cells (arr k.n k.acc) 3 (0, 0))
  o : w.heap[L.o]? = some (.cells (arr k.n k.wo) 3 (0, 0))
  u : w.heap[L.u]? = some (.cells (arr k.n k.su) 3 (0, 0))
  p : Buf w L.p 3 k.pipe
  q : Buf w L.q 3 k.pipe2
  t : Buf w L.t 256 k.trace

theorem cell_of {w : World} {b i : Nat} {cs : Array Value} {e : TypeId} {fr : Nat × Nat} (h : w.heap[b]? = some (.cells cs e fr)) : w.cell? ⟨b, i, none⟩ = cs[i]? := by
  simp [World.cell?, h]
theorem frozen_of {w : World} {b i : Nat} {cs : Array Value} {e : TypeId} (h : w.heap[b]? = some (.cells cs e (0, 0))) : w.frozen? ⟨b, i, none⟩ = false := by
  simp [World.frozen?, h]
theorem heap_set_same {w : World} {b i : Nat} {v : Value} {cs : Array Value} {e : TypeId} {fr : Nat × Nat} (h : w.heap[b]? = some (.cells cs e fr)) :
    (w.setCell ⟨b, i, none⟩ v).heap[b]? = some (.cells (cs.setIfInBounds i v) e fr) := by
  simp [World.setCell, Array.getElem?_modify, h]
theorem heap_set_ne {w : World} {b b' i : Nat} {v : Value} (h : b' ≠ b) : (w.setCell ⟨b, i, none⟩ v).heap[b']? = w.heap[b']? :=
  Below.heap_setCell w ⟨b, i, none⟩ v b' h

theorem Buf.set_ne {w : World} {b b' i size : Nat} {v : Value} {l : List Int} (hb : Buf w b size l) (h : b ≠ b') : Buf (w.setCell ⟨b', i, none⟩ v) b size l := by
  obtain ⟨cs, h1, h2, h3⟩ := hb
  exact ⟨cs, by rw [heap_set_ne h]; exact h1, h2, h3⟩
theorem Buf.of_heap {w w' : World} {b size : Nat} {l : List Int} (hb : Buf w b size l) (h : w'.heap[b]? = w.heap[b]?) : Buf w' b size l := by
  obtain ⟨cs, h1, h2, h3⟩ := hb
  exact ⟨cs, by rw [h]; exact h1, h2, h3⟩
theorem Buf.cell {w : World} {b size i : Nat} {l : List Int} (hb : Buf w b size l) (hi : i < l.length) : w.cell? ⟨b, i, none⟩ = some (.int .i64 (l.getD i 0)) := by
  obtain ⟨cs, h1, h2, h3⟩ := hb
  rw [cell_of h1]; exact h3 i hi
theorem Buf.some {w : World} {b size i : Nat} {l : List Int} (hb : Buf w b size l) (hi : i < size) : ∃ v, w.cell? ⟨b, i, none⟩ = Option.some v := by
  obtain ⟨cs, h1, h2, h3⟩ := hb
  refine ⟨cs[i]'(by omega), ?_⟩
  rw [cell_of h1]; simp [h2, hi]
theorem Buf.fz {w : World} {b size i : Nat} {l : List Int} (hb : Buf w b size l) : w.frozen? ⟨b, i, none⟩ = false := by
  obtain ⟨cs, h1, h2, h3⟩ := hb
  exact frozen_of h1

section
variable {w w' : World} {L : Lay} {k : KS}

/-- All inequalities of the lay. -/
theorem KAt.ne (h : KAt w L k) : (L.kb ≠ L.s ∧ L.kb ≠ L.c ∧ L.kb ≠ L.a ∧ L.kb ≠ L.o ∧ L.kb ≠ L.u ∧ L.kb ≠ L.p ∧ L.kb ≠ L.q ∧ L.kb ≠ L.t) ∧
    (L.s ≠ L.c ∧ L.s ≠ L.a ∧ L.s ≠ L.o ∧ L.s ≠ L.u ∧ L.s ≠ L.p ∧ L.s ≠ L.q ∧ L.s ≠ L.t) ∧
    (L.c ≠ L.a ∧ L.c ≠ L.o ∧ L.c ≠ L.u ∧ L.c ≠ L.p ∧ L.c ≠ L.q ∧ L.c ≠ L.t) ∧
    (L.a ≠ L.o ∧ L.a ≠ L.u ∧ L.a ≠ L.p ∧ L.a ≠ L.q ∧ L.a ≠ L.t) ∧
    (L.o ≠ L.u ∧ L.o ≠ L.p ∧ L.o ≠ L.q ∧ L.o ≠ L.t) ∧ (L.u ≠ L.p ∧ L.u ≠ L.q ∧ L.u ≠ L.t) ∧ (L.p ≠ L.q ∧ L.p ≠ L.t) ∧ L.q ≠ L.t := by
  have := h.nodup
  simpa [Lay.list, and_assoc] using this

theorem KAt.f0 (h : KAt w L k) : w.cell? ⟨L.kb, 0, none⟩ = some (.slice (some ⟨L.s, 0, none⟩) k.n k.n) := by rw [cell_of h.kb]; rfl
theorem KAt.f1 (h : KAt w L k) : w.cell? ⟨L.kb, 1, none⟩ = some (.slice (some ⟨L.c, 0, none⟩) k.n k.n) := by rw [cell_of h.kb]; rfl
theorem KAt.f2 (h : KAt w L k) : w.cell? ⟨L.kb, 2, none⟩ = some (.slice (some ⟨L.a, 0, none⟩) k.n k.n) := by rw [cell_of h.kb]; rfl
theorem KAt.f3 (h : KAt w L k) : w.cell? ⟨L.kb, 3, none⟩ = some (.slice (some ⟨L.o, 0, none⟩) k.n k.n) := by rw [cell_of h.kb]; rfl
theorem KAt.f4 (h : KAt w L k) : w.cell? ⟨L.kb, 4, none⟩ = some (.slice (some ⟨L.u, 0, none⟩) k.n k.n) := by rw [cell_of h.kb]; rfl
theorem KAt.f5 (h : KAt w L k) : w.cell? ⟨L.kb, 5, none⟩ = some (.slice (some ⟨L.p, 0, none⟩) k.pipe.length 3) := by rw [cell_of h.kb]; rfl
theorem KAt.f6 (h : KAt w L k) : w.cell? ⟨L.kb, 6, none⟩ = some (.slice (some ⟨L.q, 0, none⟩) k.pipe2.length 3) := by rw [cell_of h.kb]; rfl
theorem KAt.f7 (h : KAt w L k) : w.cell? ⟨L.kb, 7, none⟩ = some (.int .i64 k.last) := by rw [cell_of h.kb]; rfl
theorem KAt.f8 (h : KAt w L k) : w.cell? ⟨L.kb, 8, none⟩ = some (.int .i64 k.ticks) := by rw [cell_of h.kb]; rfl
theorem KAt.f9 (h : KAt w L k) : w.cell? ⟨L.kb, 9, none⟩ = some (.slice (some ⟨L.t, 0, none⟩) k.trace.length 256) := by rw [cell_of h.kb]; rfl
theorem KAt.cs (h : KAt w L k) {i : Nat} (hi : i < k.n) : w.cell? ⟨L.s, i, none⟩ = some (.int .i64 (k.st i)) := by rw [cell_of h.s]; exact arr_get _ hi
theorem KAt.cc (h : KAt w L k) {i : Nat} (hi : i < k.n) : w.cell? ⟨L.c, i, none⟩ = some (.int .i64 (k.pc i)) := by rw [cell_of h.c]; exact arr_get _ hi
theorem KAt.ca (h : KAt w L k) {i : Nat} (hi : i < k.n) : w.cell? ⟨L.a, i, none⟩ = some (.int .i64 (k.acc i)) := by rw [cell_of h.a]; exact arr_get _ hi
theorem KAt.co (h : KAt w L k) {i : Nat} (hi : i < k.n) : w.cell? ⟨L.o, i, none⟩ = some (.int .i64 (k.wo i)) := by rw [cell_of h.o]; exact arr_get _ hi
theorem KAt.cu (h : KAt w L k) {i : Nat} (hi : i < k.n) : w.cell? ⟨L.u, i, none⟩ = some (.int .i64 (k.su i)) := by rw [cell_of h.u]; exact arr_get _ hi
theorem KAt.zk (h : KAt w L k) (i : Nat) : w.frozen? ⟨L.kb, i, none⟩ = false := frozen_of h.kb
theorem KAt.zs (h : KAt w L k) (i : Nat) : w.frozen? ⟨L.s, i, none⟩ = false := frozen_of h.s
theorem KAt.zc (h : KAt w L k) (i : Nat) : w.frozen? ⟨L.c, i, none⟩ = false := frozen_of h.c
theorem KAt.za (h : KAt w L k) (i : Nat) : w.frozen? ⟨L.a, i, none⟩ = false := frozen_of h.a
theorem KAt.zo (h : KAt w L k) (i : Nat) : w.frozen? ⟨L.o, i, none⟩ = false := frozen_of h.o
theorem KAt.zu (h : KAt w L k) (i : Nat) : w.frozen? ⟨L.u, i, none⟩ = false := frozen_of h.u

/-- The kernel is a matter of its nine blocks. -/
theorem KAt.of_heap (h : KAt w L k) (hh : ∀ b, L.mem b → w'.heap[b]? = w.heap[b]?) : KAt w' L k := by
  have m : ∀ b, b ∈ L.list → w'.heap[b]? = w.heap[b]? := hh
  refine { h with kb := ?_, s := ?_, c := ?_, a := ?_, o := ?_, u := ?_, p := h.p.of_heap (m _ (by simp [Lay.list])), q := h.q.of_heap (m _ (by simp [Lay.list])), t := h.t.of_heap (m _ (by simp [Lay.list])) }
  · rw [m _ (by simp [Lay.list])]; exact h.kb
  · rw [m _ (by simp [Lay.list])]; exact h.s
  · rw [m _ (by simp [Lay.list])]; exact h.c
  · rw [m _ (by simp [Lay.list])]; exact h.a
  · rw [m _ (by simp [Lay.list])]; exact h.o
  · rw [m _ (by simp [Lay.list])]; exact h.u

theorem KAt.lt (h : KAt w L k) {b : Nat} (hb : L.mem b) : b < w.heap.size := by
  have key : ∀ {b : Nat} {o : Obj}, w.heap[b]? = some o → b < w.heap.size := fun {b o} hh => by
    rcases Nat.lt_or_ge b w.heap.size with hlt | hge
    · exact hlt
    · rw [Array.getElem?_eq_none hge] at hh; cases hh
  obtain ⟨_, hp, _⟩ := h.p
  obtain ⟨_, hq, _⟩ := h.q
  obtain ⟨_, ht, _⟩ := h.t
  simp only [Lay.mem, Lay.list, List.mem_cons, List.not_mem_nil, or_false] at hb
  rcases hb with rfl | rfl | rfl | rfl | rfl | rfl | rfl | rfl | rfl
  · exact key h.kb
  · exact key h.s
  · exact key h.c
  · exact key h.a
  · exact key h.o
  · exact key h.u
  · exact key hp
  · exact key hq
  · exact key ht

theorem KAt.drew (h : KAt w L k) : KAt w.drew L k := h.of_heap fun _ _ => rfl
theorem KAt.alloc (h : KAt w L k) (o : Obj) : KAt (w.alloc o) L k := h.of_heap fun b hb => Below.heap_alloc w o b (h.lt hb)

theorem KAt.setSt (h : KAt w L k) (p : Nat) (v : Int) : KAt (w.setCell ⟨L.s, p, none⟩ (.int .i64 v)) L { k with st := upd k.st p v } := by
  obtain ⟨⟨n1, n2, n3, n4, n5, n6, n7, n8⟩, ⟨n9, n10, n11, n12, n13, n14, n15⟩, _⟩ := h.ne
  refine { nodup := h.nodup, hn := h.hn, hp := h.hp, hq := h.hq, ht := h.ht, kb := ?_, s := ?_, c := ?_, a := ?_, o := ?_, u := ?_, p := h.p.set_ne n13.symm, q := h.q.set_ne n14.symm, t := h.t.set_ne n15.symm }
  · rw [heap_set_ne n1]; exact h.kb
  · rw [heap_set_same h.s, arr_set]
  · rw [heap_set_ne n9.symm]; exact h.c
  · rw [heap_set_ne n10.symm]; exact h.a
  · rw [heap_set_ne n11.symm]; exact h.o
  · rw [heap_set_ne n12.symm]; exact h.u
theorem KAt.setPc (h : KAt w L k) (p : Nat) (v : Int) : KAt (w.setCell ⟨L.c, p, none⟩ (.int .i64 v)) L { k with pc := upd k.pc p v } := by
  obtain ⟨⟨n1, n2, n3, n4, n5, n6, n7, n8⟩, ⟨n9, n10, n11, n12, n13, n14, n15⟩, ⟨m1, m2, m3, m4, m5, m6⟩, _⟩ := h.ne
  refine { nodup := h.nodup, hn := h.hn, hp := h.hp, hq := h.hq, ht := h.ht, kb := ?_, s := ?_, c := ?_, a := ?_, o := ?_, u := ?_, p := h.p.set_ne m4.symm, q := h.q.set_ne m5.symm, t := h.t.set_ne m6.symm }
  · rw [heap_set_ne n2]; exact h.kb
  · rw [heap_set_ne n9]; exact h.s
  · rw [heap_set_same h.c, arr_set]
  · rw [heap_set_ne m1.symm]; exact h.a
  · rw [heap_set_ne m2.symm]; exact h.o
  · rw [heap_set_ne m3.symm]; exact h.u
theorem KAt.setAcc (h : KAt w L k) (p : Nat) (v : Int) : KAt (w.setCell ⟨L.a, p, none⟩ (.int .i64 v)) L { k with acc := upd k.acc p v } := by
  obtain ⟨⟨n1, n2, n3, n4, n5, n6, n7, n8⟩, ⟨n9, n10, n11, n12, n13, n14, n15⟩, ⟨m1, m2, m3, m4, m5, m6⟩, ⟨a1, a2, a3, a4, a5⟩, _⟩ := h.ne
  refine { nodup := h.nodup, hn := h.hn, hp := h.hp, hq := h.hq, ht := h.ht, kb := ?_, s := ?_, c := ?_, a := ?_, o := ?_, u := ?_, p := h.p.set_ne a3.symm, q := h.q.set_ne a4.symm, t := h.t.set_ne a5.symm }
  · rw [heap_set_ne n3]; exact h.kb
  · rw [heap_set_ne n10]; exact h.s
  · rw [heap_set_ne m1]; exact h.c
  · rw [heap_set_same h.a, arr_set]
  · rw [heap_set_ne a1.symm]; exact h.o
  · rw [heap_set_ne a2.symm]; exact h.u
theorem KAt.setWo (h : KAt w L k) (p : Nat) (v : Int) : KAt (w.setCell ⟨L.o, p, none⟩ (.int .i64 v)) L { k with wo := upd k.wo p v } := by
  obtain ⟨⟨n1, n2, n3, n4, n5, n6, n7, n8⟩, ⟨n9, n10, n11, n12, n13, n14, n15⟩, ⟨m1, m2, m3, m4, m5, m6⟩, ⟨a1, a2, a3, a4, a5⟩, ⟨b1, b2, b3, b4⟩, _⟩ := h.ne
  refine { nodup := h.nodup, hn := h.hn, hp := h.hp, hq := h.hq, ht := h.ht, kb := ?_, s := ?_, c := ?_, a := ?_, o := ?_, u := ?_, p := h.p.set_ne b2.symm, q := h.q.set_ne b3.symm, t := h.t.set_ne b4.symm }
  · rw [heap_set_ne n4]; exact h.kb
  · rw [heap_set_ne n11]; exact h.s
  · rw [heap_set_ne m2]; exact h.c
  · rw [heap_set_ne a1]; exact h.a
  · rw [heap_set_same h.o, arr_set]
  · rw [heap_set_ne b1.symm]; exact h.u
theorem KAt.setSu (h : KAt w L k) (p : Nat) (v : Int) : KAt (w.setCell ⟨L.u, p, none⟩ (.int .i64 v)) L { k with su := upd k.su p v } := by
  obtain ⟨⟨n1, n2, n3, n4, n5, n6, n7, n8⟩, ⟨n9, n10, n11, n12, n13, n14, n15⟩, ⟨m1, m2, m3, m4, m5, m6⟩, ⟨a1, a2, a3, a4, a5⟩, ⟨b1, b2, b3, b4⟩, ⟨c1, c2, c3⟩, _⟩ := h.ne
  refine { nodup := h.nodup, hn := h.hn, hp := h.hp, hq := h.hq, ht := h.ht, kb := ?_, s := ?_, c := ?_, a := ?_, o := ?_, u := ?_, p := h.p.set_ne c1.symm, q := h.q.set_ne c2.symm, t := h.t.set_ne c3.symm }
  · rw [heap_set_ne n5]; exact h.kb
  · rw [heap_set_ne n12]; exact h.s
  · rw [heap_set_ne m3]; exact h.c
  · rw [heap_set_ne a2]; exact h.a
  · rw [heap_set_ne b1]; exact h.o
  · rw [heap_set_same h.u, arr_set]
end

/-- From w to w' no block has turned but those of S and new ones. -/
structure Chg (S : Nat → Prop) (w w' : World) : Prop where
  os : w'.os = w.os
  tape : w'.tape = w.tape
  output : w'.output = w.output
  size : w.heap.size ≤ w'.heap.size
  block : ∀ b, b < w.heap.size → ¬ S b → w'.heap[b]? = w.heap[b]?

section
variable {S : Nat → Prop} {a b c w w' : World}
theorem Chg.refl (S : Nat → Prop) (w : World) : Chg S w w := ⟨rfl, rfl, rfl, Nat.le_refl _, fun _ _ _ => rfl⟩
theorem Chg.trans (h : Chg S a b) (k : Chg S b c) : Chg S a c :=
  ⟨k.os.trans h.os, k.tape.trans h.tape, k.output.trans h.output, Nat.le_trans h.size k.size, fun i hi hs => (k.block i (Nat.lt_of_lt_of_le hi h.size) hs).trans (h.block i hi hs)⟩
theorem Chg.mono {S' : Nat → Prop} (h : Chg S a b) (hs : ∀ i, S i → S' i) : Chg S' a b := ⟨h.os, h.tape, h.output, h.size, fun i hi hn => h.block i hi fun hh => hn (hs i hh)⟩
theorem Chg.drew (h : Chg S a w) : Chg S a w.drew := ⟨h.os, h.tape, h.output, h.size, h.block⟩
theorem Chg.drewN (h : Chg S a w) (n : Nat) : Chg S a (w.drewN n) := ⟨h.os, h.tape, h.output, h.size, h.block⟩
theorem Chg.alloc (h : Chg S a w) (o : Obj) : Chg S a (w.alloc o) :=
  h.trans ⟨rfl, rfl, rfl, by simp, fun k hk _ => Below.heap_alloc _ _ _ hk⟩
theorem Chg.setCell (h : Chg S a w) {p : Addr} (hp : S p.block ∨ a.heap.size ≤ p.block) (u : Value) : Chg S a (w.setCell p u) := by
  refine ⟨h.os, h.tape, h.output, by simpa [World.setCell] using h.size, fun k hk hs => ?_⟩
  rw [Below.heap_setCell _ _ _ _ (by rintro rfl; rcases hp with hp | hp; exact hs hp; omega)]
  exact h.block k hk hs
/-- Blocks that S says nothing of are kept by a change that turns new blocks only, after w0. -/
theorem Chg.fresh {w0 : World} (h : Chg S a b) (k : Chg (fun i => S i ∨ a.heap.size ≤ i) b c) (_ : w0 = a) : Chg S a c :=
  ⟨k.os.trans h.os, k.tape.trans h.tape, k.output.trans h.output, Nat.le_trans h.size k.size, fun i hi hs => (k.block i (Nat.lt_of_lt_of_le hi h.size) (by rintro (hh | hh); exact hs hh; omega)).trans (h.block i hi hs)⟩
theorem Chg.cell (h : Chg S a b) {p : Addr} (hp : p.block < a.heap.size) (hs : ¬ S p.block) : b.cell? p = a.cell? p := World.cell?_of_block (w := a) (h.block p.block hp hs)
theorem Chg.frozen (h : Chg S a b) {p : Addr} (hp : p.block < a.heap.size) (hs : ¬ S p.block) : b.frozen? p = a.frozen? p := World.frozen?_of_block (w := a) (h.block p.block hp hs)
theorem Chg.below (h : Chg S a b) {B : Nat} (hB : B ≤ a.heap.size) (hs : ∀ i, S i → B ≤ i) : Below B a b :=
  ⟨h.os, h.tape, h.output, h.size, fun i hi => h.block i (by omega) fun hh => by have := hs i hh; omega⟩
end

theorem KAt.chg {w w' : World} {L : Lay} {k : KS} {S : Nat → Prop} (h : KAt w L k) (hc : Chg S w w') (hs : ∀ b, L.mem b → ¬ S b) : KAt w' L k :=
  h.of_heap fun b hb => hc.block b (h.lt hb) (hs b hb)

section
variable {w w' : World} {L : Lay} {k : KS}
/-- Stores into the kernel's own block. -/
theorem KAt.setLast (h : KAt w L k) (v : Int) : KAt (w.setCell ⟨L.kb, 7, none⟩ (.int .i64 v)) L { k with last := v } := by
  obtain ⟨⟨n1, n2, n3, n4, n5, n6, n7, n8⟩, -⟩ := h.ne
  refine { nodup := h.nodup, hn := h.hn, hp := h.hp, hq := h.hq, ht := h.ht, kb := ?_, s := ?_, c := ?_, a := ?_, o := ?_, u := ?_, p := h.p.set_ne n6.symm, q := h.q.set_ne n7.symm, t := h.t.set_ne n8.symm }
  · rw [heap_set_same h.kb]; rfl
  · rw [heap_set_ne n1.symm]; exact h.s
  · rw [heap_set_ne n2.symm]; exact h.c
  · rw [heap_set_ne n3.symm]; exact h.a
  · rw [heap_set_ne n4.symm]; exact h.o
  · rw [heap_set_ne n5.symm]; exact h.u
theorem KAt.setTicks (h : KAt w L k) (v : Int) : KAt (w.setCell ⟨L.kb, 8, none⟩ (.int .i64 v)) L { k with ticks := v } := by
  obtain ⟨⟨n1, n2, n3, n4, n5, n6, n7, n8⟩, -⟩ := h.ne
  refine { nodup := h.nodup, hn := h.hn, hp := h.hp, hq := h.hq, ht := h.ht, kb := ?_, s := ?_, c := ?_, a := ?_, o := ?_, u := ?_, p := h.p.set_ne n6.symm, q := h.q.set_ne n7.symm, t := h.t.set_ne n8.symm }
  · rw [heap_set_same h.kb]; rfl
  · rw [heap_set_ne n1.symm]; exact h.s
  · rw [heap_set_ne n2.symm]; exact h.c
  · rw [heap_set_ne n3.symm]; exact h.a
  · rw [heap_set_ne n4.symm]; exact h.o
  · rw [heap_set_ne n5.symm]; exact h.u
theorem KAt.setPipe (h : KAt w L k) (l : List Int) (hl : l.length ≤ 3) (hb : Buf w L.p 3 l) : KAt (w.setCell ⟨L.kb, 5, none⟩ (.slice (some ⟨L.p, 0, none⟩) l.length 3)) L { k with pipe := l } := by
  obtain ⟨⟨n1, n2, n3, n4, n5, n6, n7, n8⟩, -⟩ := h.ne
  refine { nodup := h.nodup, hn := h.hn, hp := hl, hq := h.hq, ht := h.ht, kb := ?_, s := ?_, c := ?_, a := ?_, o := ?_, u := ?_, p := hb.set_ne n6.symm, q := h.q.set_ne n7.symm, t := h.t.set_ne n8.symm }
  · rw [heap_set_same h.kb]; rfl
  · rw [heap_set_ne n1.symm]; exact h.s
  · rw [heap_set_ne n2.symm]; exact h.c
  · rw [heap_set_ne n3.symm]; exact h.a
  · rw [heap_set_ne n4.symm]; exact h.o
  · rw [heap_set_ne n5.symm]; exact h.u
theorem KAt.setPipe2 (h : KAt w L k) (l : List Int) (hl : l.length ≤ 3) (hb : Buf w L.q 3 l) : KAt (w.setCell ⟨L.kb, 6, none⟩ (.slice (some ⟨L.q, 0, none⟩) l.length 3)) L { k with pipe2 := l } := by
  obtain ⟨⟨n1, n2, n3, n4, n5, n6, n7, n8⟩, -⟩ := h.ne
  refine { nodup := h.nodup, hn := h.hn, hp := h.hp, hq := hl, ht := h.ht, kb := ?_, s := ?_, c := ?_, a := ?_, o := ?_, u := ?_, p := h.p.set_ne n6.symm, q := hb.set_ne n7.symm, t := h.t.set_ne n8.symm }
  · rw [heap_set_same h.kb]; rfl
  · rw [heap_set_ne n1.symm]; exact h.s
  · rw [heap_set_ne n2.symm]; exact h.c
  · rw [heap_set_ne n3.symm]; exact h.a
  · rw [heap_set_ne n4.symm]; exact h.o
  · rw [heap_set_ne n5.symm]; exact h.u
theorem KAt.setTrace (h : KAt w L k) (l : List Int) (hl : l.length ≤ 256) (hb : Buf w L.t 256 l) : KAt (w.setCell ⟨L.kb, 9, none⟩ (.slice (some ⟨L.t, 0, none⟩) l.length 256)) L { k with trace := l } := by
  obtain ⟨⟨n1, n2, n3, n4, n5, n6, n7, n8⟩, -⟩ := h.ne
  refine { nodup := h.nodup, hn := h.hn, hp := h.hp, hq := h.hq, ht := hl, kb := ?_, s := ?_, c := ?_, a := ?_, o := ?_, u := ?_, p := h.p.set_ne n6.symm, q := h.q.set_ne n7.symm, t := hb.set_ne n8.symm }
  · rw [heap_set_same h.kb]; rfl
  · rw [heap_set_ne n1.symm]; exact h.s
  · rw [heap_set_ne n2.symm]; exact h.c
  · rw [heap_set_ne n3.symm]; exact h.a
  · rw [heap_set_ne n4.symm]; exact h.o
  · rw [heap_set_ne n5.symm]; exact h.u

/-- The kernel but for one of its three buffers' content. -/
theorem KAt.withP (h : KAt w L k) (hne : ∀ b, L.mem b → b ≠ L.p → w'.heap[b]? = w.heap[b]?) (l : List Int) (hl : l.length = k.pipe.length) (hb : Buf w' L.p 3 l) : KAt w' L { k with pipe := l } := by
  obtain ⟨⟨n1, n2, n3, n4, n5, n6, n7, n8⟩, ⟨m1, m2, m3, m4, m5, m6, m7⟩, ⟨c1, c2, c3, c4, c5, c6⟩, ⟨a1, a2, a3, a4, a5⟩, ⟨o1, o2, o3, o4⟩, ⟨u1, u2, u3⟩, ⟨p1, p2⟩, q1⟩ := h.ne
  have m : ∀ b, b ∈ L.list → b ≠ L.p → w'.heap[b]? = w.heap[b]? := hne
  refine { nodup := h.nodup, hn := h.hn, hp := by simpa [hl] using h.hp, hq := h.hq, ht := h.ht, kb := ?_, s := ?_, c := ?_, a := ?_, o := ?_, u := ?_, p := hb, q := h.q.of_heap (m _ (by simp [Lay.list]) p1.symm), t := h.t.of_heap (m _ (by simp [Lay.list]) p2.symm) }
  · rw [m _ (by simp [Lay.list]) n6]; simpa [hl] using h.kb
  · rw [m _ (by simp [Lay.list]) m5]; exact h.s
  · rw [m _ (by simp [Lay.list]) c4]; exact h.c
  · rw [m _ (by simp [Lay.list]) a3]; exact h.a
  · rw [m _ (by simp [Lay.list]) o2]; exact h.o
  · rw [m _ (by simp [Lay.list]) u1]; exact h.u
theorem KAt.withQ (h : KAt w L k) (hne : ∀ b, L.mem b → b ≠ L.q → w'.heap[b]? = w.heap[b]?) (l : List Int) (hl : l.length = k.pipe2.length) (hb : Buf w' L.q 3 l) : KAt w' L { k with pipe2 := l } := by
  obtain ⟨⟨n1, n2, n3, n4, n5, n6, n7, n8⟩, ⟨m1, m2, m3, m4, m5, m6, m7⟩, ⟨c1, c2, c3, c4, c5, c6⟩, ⟨a1, a2, a3, a4, a5⟩, ⟨o1, o2, o3, o4⟩, ⟨u1, u2, u3⟩, ⟨p1, p2⟩, q1⟩ := h.ne
  have m : ∀ b, b ∈ L.list → b ≠ L.q → w'.heap[b]? = w.heap[b]? := hne
  refine { nodup := h.nodup, hn := h.hn, hp := h.hp, hq := by simpa [hl] using h.hq, ht := h.ht, kb := ?_, s := ?_, c := ?_, a := ?_, o := ?_, u := ?_, p := h.p.of_heap (m _ (by simp [Lay.list]) p1), q := hb, t := h.t.of_heap (m _ (by simp [Lay.list]) q1.symm) }
  · rw [m _ (by simp [Lay.list]) n7]; simpa [hl] using h.kb
  · rw [m _ (by simp [Lay.list]) m6]; exact h.s
  · rw [m _ (by simp [Lay.list]) c5]; exact h.c
  · rw [m _ (by simp [Lay.list]) a4]; exact h.a
  · rw [m _ (by simp [Lay.list]) o3]; exact h.o
  · rw [m _ (by simp [Lay.list]) u2]; exact h.u
theorem KAt.withT (h : KAt w L k) (hne : ∀ b, L.mem b → b ≠ L.t → w'.heap[b]? = w.heap[b]?) (l : List Int) (hl : l.length = k.trace.length) (hb : Buf w' L.t 256 l) : KAt w' L { k with trace := l } := by
  obtain ⟨⟨n1, n2, n3, n4, n5, n6, n7, n8⟩, ⟨m1, m2, m3, m4, m5, m6, m7⟩, ⟨c1, c2, c3, c4, c5, c6⟩, ⟨a1, a2, a3, a4, a5⟩, ⟨o1, o2, o3, o4⟩, ⟨u1, u2, u3⟩, ⟨p1, p2⟩, q1⟩ := h.ne
  have m : ∀ b, b ∈ L.list → b ≠ L.t → w'.heap[b]? = w.heap[b]? := hne
  refine { nodup := h.nodup, hn := h.hn, hp := h.hp, hq := h.hq, ht := by simpa [hl] using h.ht, kb := ?_, s := ?_, c := ?_, a := ?_, o := ?_, u := ?_, p := h.p.of_heap (m _ (by simp [Lay.list]) p2), q := h.q.of_heap (m _ (by simp [Lay.list]) q1), t := hb }
  · rw [m _ (by simp [Lay.list]) n8]; simpa [hl] using h.kb
  · rw [m _ (by simp [Lay.list]) m7]; exact h.s
  · rw [m _ (by simp [Lay.list]) c6]; exact h.c
  · rw [m _ (by simp [Lay.list]) a5]; exact h.a
  · rw [m _ (by simp [Lay.list]) o4]; exact h.o
  · rw [m _ (by simp [Lay.list]) u3]; exact h.u
end

/-- A store at the end of a buffer's list, and one shifted down. -/
theorem Buf.push {w : World} {b size : Nat} {l : List Int} (hb : Buf w b size l) (hl : l.length < size) (v : Int) : Buf (w.setCell ⟨b, l.length, none⟩ (.int .i64 v)) b size (l ++ [v]) := by
  obtain ⟨cs, h1, h2, h3⟩ := hb
  refine ⟨_, heap_set_same h1, by simpa using h2, fun i hi => ?_⟩
  simp only [List.length_append, List.length_singleton] at hi
  rw [Array.getElem?_setIfInBounds]
  by_cases he : l.length = i
  · subst he; simp [h2, hl]
  · rw [if_neg he, h3 i (by omega)]
    simp [List.getElem?_append_left (show i < l.length by omega)]
theorem Buf.mono {w : World} {b size : Nat} {l m : List Int} (hb : Buf w b size l) (hl : m.length ≤ l.length) (h : ∀ i, i < m.length → m.getD i 0 = l.getD i 0) : Buf w b size m := by
  obtain ⟨cs, h1, h2, h3⟩ := hb
  exact ⟨cs, h1, h2, fun i hi => by rw [h i hi]; exact h3 i (by omega)⟩

end Go.Proofs.Ygdapg
