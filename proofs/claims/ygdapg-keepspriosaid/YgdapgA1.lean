/-
  keeps, WALKED.
-/
import Derived.Test.YgdapgJ1
set_option linter.unusedSimpArgs false
set_option linter.unusedVariables false
namespace Go.Proofs.Ygdapg
open Go.RowKit

set_option maxRecDepth 100000 in
set_option maxHeartbeats 1000000 in
theorem keeps_any (w : World) (B N : Nat) (V mv : Value) (X : Nat → Prop) (ms : List Mo) (cf : Nat → List Value) (H : Hid (HistAt B w V X N mv ms cf)) (hN : N ≤ 8) (M : Nat) (HM : Hid (ms.length = M)) (hM : M ≤ 256) (h0 : Hid (0 < M → 0 < N)) (HV : Hid (∃ a m c, V = .slice a m c)) :
    Calls Yapd.prog 19 #[.agg #[.int .i64 (N : Int), .bool true, mv, V]] w fun e w' => e = .returned (.bool true) ∧ Chg No w w' := by
  obtain ⟨mq, nq, rfl⟩ : ∃ mq nq, mv = .slice mq M nq := by rw [← HM.out]; exact H.out.shape
  obtain ⟨qa, qm, qc, rfl⟩ := HV.out
  go_enter Yapd.func19, Yapd.ntmps19
  go_wp2_with fail
  have hb0 : (w.alloc (.cells #[.int .i64 (N : Int), .bool true, .slice mq M nq, .slice qa qm qc] 32)).heap[w.heap.size]? = some (.cells #[.int .i64 (N : Int), .bool true, .slice mq M nq, .slice qa qm qc] 32 (0, 0)) := heap_alloc_new' _ _
  have C0 : Chg No w (w.alloc (.cells #[.int .i64 (N : Int), .bool true, .slice mq M nq, .slice qa qm qc] 32)) := (Chg.refl _ _).alloc _
  generalize w.alloc (.cells #[.int .i64 (N : Int), .bool true, .slice mq M nq, .slice qa qm qc] 32) = W0 at *
  have HC0 : Hid (Chg No w W0) := C0
  have x1 : W0.cell? ⟨w.heap.size, 1, none⟩ = some (.bool true) := by rw [cell_of hb0]; rfl
  have x2 : W0.cell? ⟨w.heap.size, 2, none⟩ = some (.slice mq M nq) := by rw [cell_of hb0]; rfl
  clear hb0 C0
  go_loop [3] (fun i => ∃ t : Nat, t ≤ M ∧ i = .int .i64 t) (fun i => M - (intOf i).toNat)
  case atStart => exact ⟨0, by omega, rfl⟩
  case round =>
    obtain ⟨t, ht, rfl⟩ := hrel
    by_cases hlt : t < M
    · obtain ⟨m, hm⟩ : ∃ m, ms[t]? = some m := ⟨ms[t]'(by rw [HM.out]; exact hlt), by simp⟩
      have hN0 : 0 < N := h0.out (by omega)
      obtain ⟨g, cap, b1, o1, c1, b2, o2, c2, b3, o3, c3, b4, o4, c4, a5, c5, a6, c6, he, mv0⟩ := H.out.view hN0 hm
      obtain ⟨rfl, -, rfl⟩ : mq = some ⟨g, 0, none⟩ ∧ M = ms.length ∧ nq = cap := by simpa using he
      have d3 := (mv0.chg HC0.out).d3
      clear he mv0 hm
      go_wp2_with fail
      go_round
      case rel => exact ⟨t + 1, by omega, by go_num⟩
      case measure => simp [intOf]; omega
    · have hte : M = t := by omega
      subst hte
      go_wp2_with fail
      go_ret
      exact ⟨rfl, HC0.out⟩
end Go.Proofs.Ygdapg
