/-
  THE ROWS' ARGUMENTS OPENED: a slice of priorities.
-/
import Derived.Test.YgdapgOpen
import Derived.Test.YgdapgP4
set_option linter.unusedSimpArgs false
set_option linter.unusedVariables false
namespace Go.Proofs.Ygdapg
open Go.ChangeShapes Go.WideShapes Go.ChangeAt Go.RowKit Go.Deep
section
variable {H : Type} {enc : TypeId × Value → H} {W : World}
theorem ints_of_trod {v : Value} {d : DataW H} {ps : List MemPlace} (h : DataW.Trod enc Yapd.prog W 0 (fun _ => true) true 23 v d ps) (hs : ∃ a len cap, v = .slice a len cap) :
    ∃ n f, IntsAt W.heap.size W v n f := by
  obtain ⟨a0, len0, cap0, rfl⟩ := hs
  obtain ⟨fuel, hf⟩ := h
  rcases open_slice1 Yapd.underlying23 Yapd.cells3 hf with ⟨hcs, _⟩ | ⟨a, len, cap, m, n, V, D, Pl, hcs, _, hl, hm, hmm, _, hx⟩
  · simp [Value.cells] at hcs
    obtain ⟨rfl, rfl, rfl⟩ := hcs
    exact ⟨0, fun _ => 0, none, 0, rfl, fun h => by omega⟩
  · simp [Value.cells] at hcs
    obtain ⟨rfl, rfl, rfl⟩ := hcs
    have hmc : m = cap0 := by simpa using hmm
    subst hmc
    have key : ∀ i, i < len0 → ∃ x : Int × Int, V i = .int .i64 x.1 := fun i hi => by
      obtain ⟨k0, e0, _, _⟩ := DataW.trod_int Yapd.underlying3 (hx i (by omega)).2
      exact ⟨(k0, 0), by simpa using e0⟩
    obtain ⟨f, hf⟩ := choose_lt (α := Int × Int) key
    refine ⟨len0, fun i => (f i).1, some a, m, rfl, fun h0 => ?_⟩
    have c0 := (hx 0 (by omega)).1
    simp only [Addr.add, if_true] at c0
    have hsp : a = ⟨a.block, a.off, none⟩ := cell_noSpot c0
    have hlt : a.block < W.heap.size := by rw [hsp] at c0; exact cell_lt c0
    refine ⟨a.block, a.off, by rw [← hsp], hlt, fun j hj => ?_⟩
    have cj := (hx j (by omega)).1
    rw [hsp, Addr.add_mid] at cj
    rw [cj, hf j hj]
end
end Go.Proofs.Ygdapg
