/-
  What the judges read: a moment in memory, a row of the judge's own.
-/
import Derived.Test.YgdapgH7
import Derived.Test.YgdapgQ2
set_option linter.unusedSimpArgs false
set_option linter.unusedVariables false
namespace Go.Proofs.Ygdapg
open Go.RowKit

/-- The i-th moment, read. -/
structure MV (w : World) (N : Nat) (m : Mo) (g i b1 o1 c1 b2 o2 c2 b3 o3 c3 b4 o4 c4 : Nat) (a5 : Option Addr) (c5 : Nat) (a6 : Option Addr) (c6 : Nat) : Prop where
  d0 : w.cell? ⟨g, i * 10, none⟩ = some (.int .i64 m.p)
  d1 : w.cell? ⟨g, i * 10 + 1, none⟩ = some (.int .i64 m.kd)
  d2 : w.cell? ⟨g, i * 10 + 2, none⟩ = some (.int .i64 m.a)
  d3 : w.cell? ⟨g, i * 10 + 3, none⟩ = some (.bool true)
  d4 : w.cell? ⟨g, i * 10 + 4, none⟩ = some (.slice (some ⟨b1, o1, none⟩) N c1)
  d5 : w.cell? ⟨g, i * 10 + 5, none⟩ = some (.slice (some ⟨b2, o2, none⟩) N c2)
  d6 : w.cell? ⟨g, i * 10 + 6, none⟩ = some (.slice (some ⟨b3, o3, none⟩) N c3)
  d7 : w.cell? ⟨g, i * 10 + 7, none⟩ = some (.slice (some ⟨b4, o4, none⟩) N c4)
  d8 : w.cell? ⟨g, i * 10 + 8, none⟩ = some (.slice a5 m.pipe.length c5)
  d9 : w.cell? ⟨g, i * 10 + 9, none⟩ = some (.slice a6 m.pipe2.length c6)
  st : ∀ j, j < N → w.cell? ⟨b1, o1 + j, none⟩ = some (.int .i64 (m.st j))
  wo : ∀ j, j < N → w.cell? ⟨b2, o2 + j, none⟩ = some (.int .i64 (m.wo j))
  su : ∀ j, j < N → w.cell? ⟨b3, o3 + j, none⟩ = some (.int .i64 (m.su j))
  acc : ∀ j, j < N → w.cell? ⟨b4, o4 + j, none⟩ = some (.int .i64 (m.acc j))
  pi : 0 < m.pipe.length → ∃ b o, a5 = some ⟨b, o, none⟩ ∧ ∀ j, j < m.pipe.length → w.cell? ⟨b, o + j, none⟩ = some (.int .i64 (lf m.pipe j))
  pj : 0 < m.pipe2.length → ∃ b o, a6 = some ⟨b, o, none⟩ ∧ ∀ j, j < m.pipe2.length → w.cell? ⟨b, o + j, none⟩ = some (.int .i64 (lf m.pipe2 j))
  le5 : m.pipe.length ≤ 3
  le6 : m.pipe2.length ≤ 3

theorem SlQ.pos {w : World} {V v : Value} {X : Nat → Prop} {n : Nat} {f : Nat → Int} (h : SlQ w V X v n f) (hn : 0 < n) : ∃ b o c, v = .slice (some ⟨b, o, none⟩) n c ∧ ∀ j, j < n → w.cell? ⟨b, o + j, none⟩ = some (.int .i64 (f j)) := by
  rcases h with ⟨h, _⟩ | ⟨b, o, c, h1, _, h2⟩
  · omega
  · exact ⟨b, o, c, h1, fun j hj => (h2 j hj).1⟩
theorem SlQ.any {w : World} {V v : Value} {X : Nat → Prop} {n : Nat} {f : Nat → Int} (h : SlQ w V X v n f) : ∃ a c, v = .slice a n c ∧ (0 < n → ∃ b o, a = some ⟨b, o, none⟩ ∧ ∀ j, j < n → w.cell? ⟨b, o + j, none⟩ = some (.int .i64 (f j))) := by
  rcases h with ⟨h, a, c, h1⟩ | ⟨b, o, c, h1, _, h2⟩
  · exact ⟨a, c, by rw [h1, h], fun h' => by omega⟩
  · exact ⟨_, c, h1, fun _ => ⟨b, o, rfl, fun j hj => (h2 j hj).1⟩⟩

theorem HistAt.view {B : Nat} {w : World} {V mv : Value} {X : Nat → Prop} {N : Nat} {ms : List Mo} {cf : Nat → List Value} (h : HistAt B w V X N mv ms cf) (hN : 0 < N) {i : Nat} {m : Mo} (hi : ms[i]? = some m) :
    ∃ g cap b1 o1 c1 b2 o2 c2 b3 o3 c3 b4 o4 c4 a5 c5 a6 c6, mv = .slice (some ⟨g, 0, none⟩) ms.length cap ∧ MV w N m g i b1 o1 c1 b2 o2 c2 b3 o3 c3 b4 o4 c4 a5 c5 a6 c6 := by
  obtain ⟨g, cap, e, hr⟩ := h.cells hi
  obtain ⟨v1, v2, v3, v4, v5, v6, h0, h1, h2, h3, h4, h5, h6, h7, h8⟩ := h.mo i m hi
  obtain ⟨b1, o1, c1, rfl, k1⟩ := h1.pos hN
  obtain ⟨b2, o2, c2, rfl, k2⟩ := h2.pos hN
  obtain ⟨b3, o3, c3, rfl, k3⟩ := h3.pos hN
  obtain ⟨b4, o4, c4, rfl, k4⟩ := h4.pos hN
  obtain ⟨a5, c5, rfl, k5⟩ := h5.any
  obtain ⟨a6, c6, rfl, k6⟩ := h6.any
  rw [h0] at hr
  exact ⟨g, cap, b1, o1, c1, b2, o2, c2, b3, o3, c3, b4, o4, c4, a5, c5, a6, c6, e, hr 0 _ rfl, hr 1 _ rfl, hr 2 _ rfl, hr 3 _ rfl, hr 4 _ rfl, hr 5 _ rfl, hr 6 _ rfl, hr 7 _ rfl, hr 8 _ rfl, hr 9 _ rfl, k1, k2, k3, k4, k5, k6, h7, h8⟩

/-- A row of the judge's own. -/
def RowV (w : World) (b N : Nat) (F : Nat → Value) : Prop := ∃ cs e, w.heap[b]? = some (.cells cs e (0, 0)) ∧ cs.size = N ∧ ∀ j, j < N → cs[j]? = some (F j)
def updV (F : Nat → Value) (j : Nat) (v : Value) : Nat → Value := fun i => if i = j then v else F i
section
variable {w w' : World} {b N : Nat} {F G : Nat → Value} {S : Nat → Prop}
theorem RowV.lt (h : RowV w b N F) : b < w.heap.size := by obtain ⟨cs, e, h1, _⟩ := h; exact heap_lt h1
theorem RowV.cell (h : RowV w b N F) {j : Nat} (hj : j < N) : w.cell? ⟨b, j, none⟩ = some (F j) := by
  obtain ⟨cs, e, h1, _, h2⟩ := h
  rw [cell_of h1]; exact h2 j hj
theorem RowV.fz (h : RowV w b N F) {j : Nat} : w.frozen? ⟨b, j, none⟩ = false := by
  obtain ⟨cs, e, h1, _, h2⟩ := h
  exact frozen_of h1
theorem RowV.set (h : RowV w b N F) (j : Nat) (v : Value) : RowV (w.setCell ⟨b, j, none⟩ v) b N (updV F j v) := by
  obtain ⟨cs, e, h1, h2, h3⟩ := h
  refine ⟨_, e, heap_set_same h1, by simpa using h2, fun i hi => ?_⟩
  rw [Array.getElem?_setIfInBounds]
  unfold updV
  by_cases hij : i = j
  · subst hij; simp; omega
  · rw [if_neg (fun h => hij h.symm), if_neg hij]; exact h3 i hi
theorem RowV.setOff (h : RowV w b N F) {b2 j : Nat} {v : Value} (hb : b ≠ b2) : RowV (w.setCell ⟨b2, j, none⟩ v) b N F := by
  obtain ⟨cs, e, h1, h2⟩ := h
  exact ⟨cs, e, by rw [heap_set_ne hb]; exact h1, h2⟩
theorem RowV.chg (h : RowV w b N F) (hc : Chg S w w') (hs : ¬ S b) : RowV w' b N F := by
  obtain ⟨cs, e, h1, h2⟩ := h
  exact ⟨cs, e, by rw [hc.block b (heap_lt h1) hs]; exact h1, h2⟩
theorem RowV.congr (h : RowV w b N F) (hF : ∀ j, j < N → F j = G j) : RowV w b N G := by
  obtain ⟨cs, e, h1, h2, h3⟩ := h
  exact ⟨cs, e, h1, h2, fun j hj => by rw [← hF j hj]; exact h3 j hj⟩
theorem RowV.new (w : World) (cs : Array Value) (e : TypeId) (hF : ∀ j, j < cs.size → cs[j]? = some (F j)) : RowV (w.alloc (.cells cs e)) w.heap.size cs.size F := ⟨cs, e, heap_alloc_new' _ _, rfl, hF⟩
end

theorem MV.chg {w w' : World} {N : Nat} {m : Mo} {g i b1 o1 c1 b2 o2 c2 b3 o3 c3 b4 o4 c4 : Nat} {a5 : Option Addr} {c5 : Nat} {a6 : Option Addr} {c6 : Nat} (h : MV w N m g i b1 o1 c1 b2 o2 c2 b3 o3 c3 b4 o4 c4 a5 c5 a6 c6) (hc : Chg No w w') : MV w' N m g i b1 o1 c1 b2 o2 c2 b3 o3 c3 b4 o4 c4 a5 c5 a6 c6 := by
  have k : ∀ {b o : Nat} {v : Value}, w.cell? ⟨b, o, none⟩ = some v → w'.cell? ⟨b, o, none⟩ = some v := fun {b o v} e => by
    rw [hc.cell (p := ⟨b, o, none⟩) (cell_lt e) (fun h => h)]; exact e
  refine ⟨k h.d0, k h.d1, k h.d2, k h.d3, k h.d4, k h.d5, k h.d6, k h.d7, k h.d8, k h.d9, fun j hj => k (h.st j hj), fun j hj => k (h.wo j hj), fun j hj => k (h.su j hj), fun j hj => k (h.acc j hj), fun hp => ?_, fun hp => ?_, h.le5, h.le6⟩
  · obtain ⟨b, o, e, h1⟩ := h.pi hp
    exact ⟨b, o, e, fun j hj => k (h1 j hj)⟩
  · obtain ⟨b, o, e, h1⟩ := h.pj hp
    exact ⟨b, o, e, fun j hj => k (h1 j hj)⟩

/-- A row half way: up to j as A, from there on as C. -/
def mid {α : Type} (A C : Nat → α) (j : Nat) : Nat → α := fun x => if x < j then A x else C x
section
variable {A C : Nat → Value} {j : Nat} {v : Value}
theorem mid_store (h : A j = v) : updV (mid A C j) j v = mid A C (j + 1) := by
  funext x
  unfold updV mid
  by_cases e : x = j
  · subst e; simp [h]
  · rw [if_neg e]
    by_cases e2 : x < j
    · rw [if_pos e2, if_pos (by omega)]
    · rw [if_neg e2, if_neg (by omega)]
theorem mid_keep (h : A j = C j) : mid A C j = mid A C (j + 1) := by
  funext x
  unfold mid
  by_cases e : x = j
  · subst e; simp [h]
  · by_cases e2 : x < j
    · rw [if_pos e2, if_pos (by omega)]
    · rw [if_neg e2, if_neg (by omega)]
theorem mid_zero : mid A C 0 = C := by funext x; simp [mid]
theorem mid_at : mid A C j j = C j := by simp [mid]
theorem RowV.full {w : World} {b N : Nat} (h : RowV w b N (mid A C N)) : RowV w b N A := h.congr fun j hj => by simp [mid, hj]
end

theorem mom_get {pl : Nat → Nat} {pg : Nat → Nat → Int × Int} : ∀ {ps : List Nat} {k : KS} {i : Nat} {m : Mo}, (momK pl pg k ps)[i]? = some m →
    ∃ p, ps[i]? = some p ∧ m = moOf (runK pl pg k (ps.take i)) p (pl p) (pg p) ∧ runK pl pg k (ps.take (i + 1)) = quantumK (runK pl pg k (ps.take i)) p (pl p) (pg p)
  | [], k, i, m, h => by simp [momK] at h
  | p :: ps, k, 0, m, h => by
    have e : moOf k p (pl p) (pg p) = m := by simpa [momK] using h
    exact ⟨p, rfl, e.symm, rfl⟩
  | p :: ps, k, i + 1, m, h => by
    have h' : (momK pl pg (quantumP pl pg k p) ps)[i]? = some m := by simpa [momK] using h
    obtain ⟨q, h1, h2, h3⟩ := mom_get h'
    exact ⟨q, by simpa using h1, h2, h3⟩

def arrB (n : Nat) : Array Value := ((List.range n).map fun _ => Value.bool false).toArray
theorem make_bools (w : World) (c : Nat) (hc : c ≤ 4096) : (Instr.makeSlice 62 (.int .i64 c) (.int .i64 c)).run Yapd.prog w = .ok (.slice (some ⟨w.heap.size, 0, none⟩) c c) (w.alloc (.cells (arrB c) 4)) := by
  have hi : ∃ i, Yapd.prog.info? 4 = some i ∧ i.zero = some (.bool false) ∧ i.bytes = 1 ∧ i.size = 1 := ⟨_, rfl, rfl, rfl, rfl⟩
  obtain ⟨i, h1, h2, h3, h4⟩ := hi
  have := run_make (P := Yapd.prog) w 62 4 i (.bool false) Yapd.underlying62 h1 h2 .i64 .i64 c c (by omega) (by omega) (by rw [h3]; omega) (by omega)
  rw [this]
  simp only [Int.toNat_natCast, h4, Nat.mul_one]
  have e : madeCells (Value.bool false).cells c = arrB c := by
    apply Array.ext
    · simp [madeCells, arrB]
    · intro j h1 h2
      simp [madeCells, arrB, Value.cells, Nat.mod_one]
  rw [e]
theorem RowV.bools (w : World) (n : Nat) : RowV (w.alloc (.cells (arrB n) 4)) w.heap.size n (fun _ => .bool false) := by
  have h := RowV.new (F := fun _ => .bool false) w (arrB n) 4 (fun j hj => by simp [arrB] at hj ⊢; exact ⟨j, by simp [hj]⟩)
  rwa [show (arrB n).size = n by simp [arrB]] at h
theorem RowV.ints (w : World) (n : Nat) (f : Nat → Int) : RowV (w.alloc (.cells (arr n f) 3)) w.heap.size n (fun j => .int .i64 (f j)) := by
  have h := RowV.new (F := fun j => .int .i64 (f j)) w (arr n f) 3 (fun j hj => by rw [arr_size] at hj; exact arr_get f hj)
  rwa [arr_size] at h
end Go.Proofs.Ygdapg
