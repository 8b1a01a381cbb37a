/-
  THE ROWS' ARGUMENTS OPENED: a slice of programs, a slice of priorities.
-/
import Derived.Test.YgdapgE1
import Derived.ProofKit
import Derived.OpenShut
import Derived.ShutString
import Derived.ChangeOld
import Derived.Deep.Slices
import Derived.Deep.MidRow
set_option linter.unusedSimpArgs false
set_option linter.unusedVariables false
namespace Go.Proofs.Ygdapg
open Go.ChangeShapes Go.WideShapes Go.ChangeAt Go.RowKit Go.Deep

theorem Yapd.own : ownKnob Yapd.prog.godebug = none := by kernel_rfl
theorem Yapd.laidOut : laidOutB Yapd.prog = true := by kernel_rfl
theorem Yapd.cells3 : Yapd.prog.cellsOf 3 = 1 := by kernel_rfl
theorem Yapd.cells52 : Yapd.prog.cellsOf 52 = 1 := by kernel_rfl
theorem Yapd.cells54 : Yapd.prog.cellsOf 54 = 2 := by kernel_rfl

section
variable {H : Type} {enc : TypeId × Value → H} {W : World}

theorem cell_noSpot {a : Addr} {v : Value} (h : W.cell? a = some v) : a = ⟨a.block, a.off, none⟩ := by
  have hs := World.cell?_spot h
  cases a
  simp at hs
  simp [hs]

theorem prog_of_trod {n : Nat} {v : Value} {x : DataW H × List MemPlace} (h : DataW.trod enc Yapd.prog W 0 (fun _ => true) true n 52 [v] = some x) :
    ∃ l g, ProgAt W.heap.size W v l g ∧ l ≤ maxLen := by
  rcases open_slice Yapd.underlying52 h with ⟨hcs, _⟩ | ⟨a, len, cap, m, n', D, Pl, hcs, _, hl, hm, hmm, _, hx⟩
  · obtain rfl : v = .slice none 0 0 := by simpa using hcs
    exact ⟨0, fun _ => (0, 0), ⟨none, 0, rfl, fun h => by omega⟩, by simp [maxLen]⟩
  · obtain rfl : v = .slice (some a) len cap := by simpa using hcs
    have hmc : m = cap := by simpa using hmm
    subst hmc
    have key : ∀ i, i < len → ∃ kd : Int × Int, W.cell? (a.add (i * 2)) = some (.int .i64 kd.1) ∧ W.cell? ((a.add (i * 2)).add 1) = some (.int .i64 kd.2) := fun i hi => by
      obtain ⟨cs', h1, h2⟩ := hx i (by omega)
      rw [Yapd.cells54] at h1
      obtain ⟨_, hlen, hcell⟩ := World.cells?_some h1
      obtain ⟨y0, y1, n2, _, _, h3, h4⟩ := trod_struct2 Yapd.underlying54 h2
      match cs', hlen with
      | [c0, c1], _ =>
        simp [Yapd.cells3] at h3 h4
        obtain ⟨k0, e0, _, _⟩ := DataW.trod_int Yapd.underlying3 h3
        obtain ⟨k1, e1, _, _⟩ := DataW.trod_int Yapd.underlying3 h4
        obtain rfl : c0 = .int .i64 k0 := by simpa using e0
        obtain rfl : c1 = .int .i64 k1 := by simpa using e1
        refine ⟨(k0, k1), ?_, ?_⟩
        · have := hcell 0 (by omega)
          simpa [Addr.add] using this
        · have := hcell 1 (by omega)
          simpa using this
    obtain ⟨f, hf⟩ := choose_lt (α := Int × Int) key
    refine ⟨len, f, ⟨some a, m, rfl, fun h0 => ?_⟩, by omega⟩
    have k0 := (hf 0 h0).1
    simp only [Nat.zero_mul, Addr.add, if_true] at k0
    have hsp : a = ⟨a.block, a.off, none⟩ := cell_noSpot k0
    have hlt : a.block < W.heap.size := by rw [hsp] at k0; exact cell_lt k0
    refine ⟨a.block, a.off, by rw [← hsp], hlt, fun j hj => ?_⟩
    have k := hf j hj
    rw [hsp, Addr.add_mid, Addr.add_mid] at k
    exact k

theorem progs_of_trod {v : Value} {d : DataW H} {ps : List MemPlace} (h : DataW.Trod enc Yapd.prog W 0 (fun _ => true) true 22 v d ps) (hs : ∃ a len cap, v = .slice a len cap) :
    ∃ N pl pg, ProgsAt W.heap.size W v N pl pg ∧ Sized N pl := by
  obtain ⟨a0, len0, cap0, rfl⟩ := hs
  obtain ⟨fuel, hf⟩ := h
  rcases open_slice1 Yapd.underlying22 Yapd.cells52 hf with ⟨hcs, _⟩ | ⟨a, len, cap, m, n, V, D, Pl, hcs, _, hl, hm, hmm, _, hx⟩
  · simp [Value.cells] at hcs
    obtain ⟨rfl, rfl, rfl⟩ := hcs
    exact ⟨0, fun _ => 0, fun _ _ => (0, 0), ⟨none, 0, rfl, fun h => by omega⟩, by simp [maxLen], fun i hi => by omega⟩
  · simp [Value.cells] at hcs
    obtain ⟨rfl, rfl, rfl⟩ := hcs
    have hmc : m = cap0 := by simpa using hmm
    subst hmc
    have key : ∀ i, i < len0 → ∃ x : Nat × (Nat → Int × Int), ProgAt W.heap.size W (V i) x.1 x.2 ∧ x.1 ≤ maxLen := fun i hi => by
      obtain ⟨l, g, h1, h2⟩ := prog_of_trod (hx i (by omega)).2
      exact ⟨(l, g), h1, h2⟩
    have key' : ∀ i, i < len0 → ∃ x : (Nat × Int × Int) × (Nat → Int × Int), ProgAt W.heap.size W (V i) x.1.1 x.2 ∧ x.1.1 ≤ maxLen := fun i hi => by
      obtain ⟨⟨l, g⟩, h1, h2⟩ := key i hi
      exact ⟨((l, 0, 0), g), h1, h2⟩
    obtain ⟨f, hf⟩ := choose_lt (α := (Nat × Int × Int) × (Nat → Int × Int)) key'
    refine ⟨len0, fun i => (f i).1.1, fun i => (f i).2, ⟨some a, m, rfl, fun h0 => ?_⟩, by omega, fun i hi => (hf i hi).2⟩
    have c0 := (hx 0 (by omega)).1
    simp only [Addr.add, if_true] at c0
    have hsp : a = ⟨a.block, a.off, none⟩ := cell_noSpot c0
    have hlt : a.block < W.heap.size := by rw [hsp] at c0; exact cell_lt c0
    refine ⟨a.block, a.off, V, by rw [← hsp], hlt, fun j hj => ?_⟩
    have cj := (hx j (by omega)).1
    rw [hsp, Addr.add_mid] at cj
    exact ⟨cj, (hf j hj).1⟩
end
end Go.Proofs.Ygdapg
