/-
  ended, quantum, ModelRun, WALKED.
-/
import Derived.Test.YgdapgE4
set_option linter.unusedSimpArgs false
set_option linter.unusedVariables false
namespace Go.Proofs.Ygdapg
open Go.RowKit

set_option maxRecDepth 100000 in
set_option maxHeartbeats 1000000 in
theorem ended_in (w : World) (B b o N c : Nat) (hB : B ≤ w.heap.size) (hN : N ≤ 8) (pl : Nat → Nat) (pg : Nat → Nat → Int × Int) (pv : Nat → Value) (Hl : Hid (∀ i, i < N → pl i ≤ 32))
    (HC : Hid (∀ i, i < N → w.cell? ⟨b, o + i, none⟩ = some (pv i) ∧ ProgAt B w (pv i) (pl i) (pg i))) (Hp : Hid (∀ i, i < N → ∀ j, j < pl i → PlainK (pg i j).1))
    (b1 b2 b3 b4 b5 b6 l4 l5 m : Nat) (ticks : Int) (st tr : Nat → Int) (h1 : w.heap[b1]? = some (.cells (arr N st) 3 (0, 0))) (h6 : w.heap[b6]? = some (.cells (arr m tr) 3 (0, 0)))
    (hm : m ≤ 256) (Hst : Hid (∀ i, i < N → st i = 3)) (Hbd : Hid (∀ i, i < m → 0 ≤ tr i ∧ tr i ≤ 1000)) (Hok : Hid (∀ p, p < N → RanOk tr m p (fun c => (fetchK N (pl p) (pg p) c).1))) :
    Calls Yapd.prog 24 #[.slice (some ⟨b, o, none⟩) N c, .agg #[.bool false, .slice (some ⟨b1, 0, none⟩) N N, .slice (some ⟨b2, 0, none⟩) N N, .slice (some ⟨b3, 0, none⟩) N N, .slice (some ⟨b4, 0, none⟩) l4 l4,
      .slice (some ⟨b5, 0, none⟩) l5 l5, .slice (some ⟨b6, 0, none⟩) m m, .int .i64 ticks]] w fun e w' => e = .returned (.bool true) ∧ Chg No w w' := by
  have H1 : Hid (w.heap[b1]? = some (.cells (arr N st) 3 (0, 0))) := h1
  have H6 : Hid (w.heap[b6]? = some (.cells (arr m tr) 3 (0, 0))) := h6
  have HB : Hid (B ≤ w.heap.size) := hB
  clear h1 h6 hB
  have hnn : ((N : Int) != (N : Int)) = false := by simp
  go_enter Yapd.func24, Yapd.ntmps24
  go_wp2_with fail
  generalize hW : w.alloc (.cells #[.bool false, .slice (some ⟨b1, 0, none⟩) N N, .slice (some ⟨b2, 0, none⟩) N N, .slice (some ⟨b3, 0, none⟩) N N, .slice (some ⟨b4, 0, none⟩) l4 l4,
      .slice (some ⟨b5, 0, none⟩) l5 l5, .slice (some ⟨b6, 0, none⟩) m m, .int .i64 ticks] 25) = W
  have C0 : Hid (Chg No w W) := by subst hW; exact (Chg.refl _ _).alloc _
  have r1 : W.cell? ⟨w.heap.size, 1, none⟩ = some (.slice (some ⟨b1, 0, none⟩) N N) := by subst hW; simp [go_sem]
  have r6 : W.cell? ⟨w.heap.size, 6, none⟩ = some (.slice (some ⟨b6, 0, none⟩) m m) := by subst hW; simp [go_sem]
  clear hW
  have R1 : Hid (W.cell? ⟨w.heap.size, 1, none⟩ = some (.slice (some ⟨b1, 0, none⟩) N N)) := r1
  have R6 : Hid (W.cell? ⟨w.heap.size, 6, none⟩ = some (.slice (some ⟨b6, 0, none⟩) m m)) := r6
  clear r1 r6
  go_loopw [5] (fun i wr => ∃ j : Nat, j ≤ N ∧ i = .int .i64 j ∧ Hid (Chg No W wr)) (fun i _ => N - (intOf i).toNat)
  case atStart => exact ⟨0, by omega, rfl, Chg.refl _ _⟩
  case round =>
    obtain ⟨j, hj, rfl, HR⟩ := hrel
    by_cases hlt : j < N
    · go_wp2_with fail
      have a1 := chg_cell HR.out R1.out
      have a6 := chg_cell HR.out R6.out
      have hwr : Chg No w wr := C0.out.trans HR.out
      have s1 : wr.cell? ⟨b1, j, none⟩ = some (.int .i64 3) := by
        have : w.cell? ⟨b1, j, none⟩ = some (.int .i64 3) := by rw [cell_of H1.out, arr_get _ hlt, Hst.out j hlt]
        exact chg_cell hwr this
      have s2 : wr.cell? ⟨b, o + j, none⟩ = some (pv j) := chg_cell hwr (HC.out j hlt).1
      refine wp_region_S (fun W' => Chg No wr W') [0, 1, 2, 3, 4, 5, 6, 7, 8, 9, 10, 11, 12, 13, 14, 15] (by kernel_rfl) ?_
      have HS : Chg No wr wr.drew := (Chg.refl _ _).drew
      refine wpAnyS_take 0 (Value.pointer (some ⟨w.heap.size, 1, none⟩)) rfl (by kernel_rfl) (by kernel_rfl) (by kernel_rfl) (by kernel_rfl) (fun _ _ _ h => h) (by rfl) HS (fun _ _ => by kernel_rfl) ?_
      simp only [Act.put, List.setIfInBounds_toArray, List.set_cons_zero, List.set_cons_succ]
      refine wpAnyS_take 1 (Value.slice (some ⟨b1, 0, none⟩) N N) rfl (by kernel_rfl) (by kernel_rfl) (by kernel_rfl) (by kernel_rfl) (fun _ _ _ h => h) (by rfl) HS (fun _ h => run_load23 rfl rfl (chg_cell h a1)) ?_
      simp only [Act.put, List.setIfInBounds_toArray, List.set_cons_zero, List.set_cons_succ]
      refine wpAnyS_take 2 (Value.int .i64 (j : Int)) rfl (by kernel_rfl) (by kernel_rfl) (by kernel_rfl) (by kernel_rfl) (fun _ _ _ h => h) (by rfl) HS (fun _ _ => rfl) ?_
      simp only [Act.put, List.setIfInBounds_toArray, List.set_cons_zero, List.set_cons_succ]
      refine wpAnyS_take 3 (Value.pointer (some ⟨b1, 0 + j, none⟩)) rfl (by kernel_rfl) (by kernel_rfl) (by kernel_rfl) (by kernel_rfl) (fun _ _ _ h => h) (by rfl) HS (fun _ _ => run_index23 rfl rfl rfl hlt) ?_
      simp only [Act.put, List.setIfInBounds_toArray, List.set_cons_zero, List.set_cons_succ]
      refine wpAnyS_take 4 (Value.int .i64 3) rfl (by kernel_rfl) (by kernel_rfl) (by kernel_rfl) (by kernel_rfl) (fun _ _ _ h => h) (by rfl) HS (fun _ h => run_load3 rfl rfl (by rw [Nat.zero_add]; exact chg_cell h s1)) ?_
      simp only [Act.put, List.setIfInBounds_toArray, List.set_cons_zero, List.set_cons_succ]
      refine wpAnyS_take 5 (Value.bool false) rfl (by kernel_rfl) (by kernel_rfl) (by kernel_rfl) (by kernel_rfl) (fun _ _ _ h => h) (by rfl) HS (fun _ _ => by kernel_rfl) ?_
      simp only [Act.put, List.setIfInBounds_toArray, List.set_cons_zero, List.set_cons_succ]
      refine wpAnyS_take 6 (Value.bool false) rfl (by kernel_rfl) (by kernel_rfl) (by kernel_rfl) (by kernel_rfl) (fun _ _ _ h => h) (by rfl) HS (fun _ _ => rfl) ?_
      simp only [Act.put, List.setIfInBounds_toArray, List.set_cons_zero, List.set_cons_succ]
      refine wpAnyS_take 7 (Value.int .i64 (j : Int)) rfl (by kernel_rfl) (by kernel_rfl) (by kernel_rfl) (by kernel_rfl) (fun _ _ _ h => h) (by rfl) HS (fun _ _ => rfl) ?_
      simp only [Act.put, List.setIfInBounds_toArray, List.set_cons_zero, List.set_cons_succ]
      refine wpAnyS_take 8 (Value.slice (some ⟨b, o, none⟩) N c) rfl (by kernel_rfl) (by kernel_rfl) (by kernel_rfl) (by kernel_rfl) (fun _ _ _ h => h) (by rfl) HS (fun _ _ => rfl) ?_
      simp only [Act.put, List.setIfInBounds_toArray, List.set_cons_zero, List.set_cons_succ]
      refine wpAnyS_take 9 (Value.int .i64 (j : Int)) rfl (by kernel_rfl) (by kernel_rfl) (by kernel_rfl) (by kernel_rfl) (fun _ _ _ h => h) (by rfl) HS (fun _ _ => rfl) ?_
      simp only [Act.put, List.setIfInBounds_toArray, List.set_cons_zero, List.set_cons_succ]
      refine wpAnyS_take 10 (Value.pointer (some ⟨b, o + j, none⟩)) rfl (by kernel_rfl) (by kernel_rfl) (by kernel_rfl) (by kernel_rfl) (fun _ _ _ h => h) (by rfl) HS (fun _ _ => run_index22 rfl rfl rfl hlt) ?_
      simp only [Act.put, List.setIfInBounds_toArray, List.set_cons_zero, List.set_cons_succ]
      refine wpAnyS_take 11 (pv j) rfl (by kernel_rfl) (by kernel_rfl) (by kernel_rfl) (by kernel_rfl) (fun _ _ _ h => h) (by rfl) HS (fun _ h => run_load52 rfl rfl (chg_cell h s2)) ?_
      simp only [Act.put, List.setIfInBounds_toArray, List.set_cons_zero, List.set_cons_succ]
      refine wpAnyS_take 12 (Value.slice (some ⟨b, o, none⟩) N c) rfl (by kernel_rfl) (by kernel_rfl) (by kernel_rfl) (by kernel_rfl) (fun _ _ _ h => h) (by rfl) HS (fun _ _ => rfl) ?_
      simp only [Act.put, List.setIfInBounds_toArray, List.set_cons_zero, List.set_cons_succ]
      refine wpAnyS_take 13 (Value.int .i64 (N : Int)) rfl (by kernel_rfl) (by kernel_rfl) (by kernel_rfl) (by kernel_rfl) (fun _ _ _ h => h) (by rfl) HS (fun _ _ => by kernel_rfl) ?_
      simp only [Act.put, List.setIfInBounds_toArray, List.set_cons_zero, List.set_cons_succ]
      refine wpAnyS_take 14 (Value.pointer (some ⟨w.heap.size, 6, none⟩)) rfl (by kernel_rfl) (by kernel_rfl) (by kernel_rfl) (by kernel_rfl) (fun _ _ _ h => h) (by rfl) HS (fun _ _ => by kernel_rfl) ?_
      simp only [Act.put, List.setIfInBounds_toArray, List.set_cons_zero, List.set_cons_succ]
      refine wpAnyS_take 15 (Value.slice (some ⟨b6, 0, none⟩) m m) rfl (by kernel_rfl) (by kernel_rfl) (by kernel_rfl) (by kernel_rfl) (fun _ _ _ h => h) (by rfl) HS (fun _ h => run_load23 rfl rfl (chg_cell h a6)) ?_
      simp only [Act.put, List.setIfInBounds_toArray, List.set_cons_zero, List.set_cons_succ]
      have hwd : Chg No w wr.drew := hwr.drew
      have hpr : ProgAt B wr.drew (pv j) (pl j) (pg j) := (HC.out j hlt).2.below ((hwd.below (B := w.heap.size) (Nat.le_refl _) (fun _ h => h.elim)).mono HB.out)
      have htr : ∀ i, i < m → wr.drew.cell? ⟨b6, i, none⟩ = some (.int .i64 (tr i)) := fun i hi => by
        have : w.cell? ⟨b6, i, none⟩ = some (.int .i64 (tr i)) := by rw [cell_of H6.out, arr_get _ hi]
        exact chg_cell hwd this
      refine wpAnyS_one 16 rfl (by kernel_rfl) (by rfl) ?_
      refine wp_callF 46 Yapd.func46 rfl (by kernel_rfl) [.int .i64 (j : Int), pv j, .int .i64 (N : Int), .slice (some ⟨b6, 0, none⟩) m m] rfl rfl (fun v w' => v = .bool true ∧ Chg No wr.drew w')
        ((ranInOrder_any wr.drew B (pv j) (pl j) (pg j) hpr (Nat.le_trans HB.out hwd.size) (Hl.out j hlt) (Hp.out j hlt) j N m b6 m (by omega) hN hm tr htr (fun h => cell_lt (htr 0 h)) Hbd.out (Hok.out j hlt)).mono fun e w' h => ⟨_, h.1, rfl, h.2⟩) ?_
      rintro _ w1 ⟨rfl, C1⟩
      have HS' : Chg No wr w1 := HS.trans C1
      refine ⟨.inr HS', ?_⟩
      clear HS
      have HS := HS'
      clear HS'
      simp only [Act.put, List.setIfInBounds_toArray, List.set_cons_zero, List.set_cons_succ]
      refine wpAnyS_one 17 rfl (by kernel_rfl) (by rfl) ?_
      refine wp_val (.bool false) (w' := w1) (by kernel_rfl) ⟨.inr HS, ?_⟩
      simp only [Act.put, List.setIfInBounds_toArray, List.set_cons_zero, List.set_cons_succ]
      refine wpAnyS_one 18 rfl (by kernel_rfl) (by rfl) ?_
      refine wp_val (.bool false) (w' := w1) (by kernel_rfl) ⟨.inr HS, wpAnyS_done (by kernel_rfl) ?_⟩
      simp only [Act.put, List.setIfInBounds_toArray, List.set_cons_zero, List.set_cons_succ]
      have HR1 : Hid (Chg No W w1) := HR.out.trans HS
      clear HS C1 htr hpr hwd s1 s2 hwr a1 a6
      go_wp2_with fail
      go_roundw
      case rel => exact ⟨j + 1, by omega, by go_num, HR1⟩
      case measure => simp [intOf]; omega
    · go_wp2_with fail
      go_ret
      exact ⟨rfl, C0.out.trans HR.out⟩
end Go.Proofs.Ygdapg
