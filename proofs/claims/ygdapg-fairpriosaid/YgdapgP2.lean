/-
  priority, lastOf, WALKED.
-/
import Derived.Test.YgdapgOrd2
import Derived.Test.YgdapgInv
set_option linter.unusedSimpArgs false
set_option linter.unusedVariables false
namespace Go.Proofs.Ygdapg
open Go.RowKit

set_option maxHeartbeats 400000 in
theorem priority_any (w : World) (b o n c : Nat) (f : Nat → Int) (HC : Hid (∀ i, i < n → w.cell? ⟨b, o + i, none⟩ = some (.int .i64 (f i)))) (p : Nat) (hp : p < n) :
    Calls Yapd.prog 66 #[.slice (some ⟨b, o, none⟩) n c, .int .i64 (p : Int)] w fun e w' => e = .returned (.int .i64 (f p)) ∧ w' = w := by
  have c0 := HC.out p hp
  go_enter Yapd.func66, Yapd.ntmps66
  go_wp2_with fail
  go_ret
  exact ⟨rfl, rfl⟩

/-- The process of this priority that ran last, off the trace (newest first). -/
def lastR (n : Nat) (pr : Nat → Int) (lv : Int) : List Int → Int
  | [] => -1
  | e :: es => if e / 16 < (n : Int) ∧ pr (e / 16).toNat = lv then e / 16 else lastR n pr lv es
def lastOfK (k : KS) (pr : Nat → Int) (lv : Int) : Int := if 0 ≤ k.last ∧ pr k.last.toNat = lv then k.last else lastR k.n pr lv k.trace.reverse

theorem lastR_range (n : Nat) (pr : Nat → Int) (lv : Int) : ∀ es : List Int, (∀ e, e ∈ es → 0 ≤ e) → -1 ≤ lastR n pr lv es ∧ lastR n pr lv es < (n : Int)
  | [], _ => by simp [lastR]; omega
  | e :: es, h => by
    have h1 := h e (by simp)
    unfold lastR
    split
    · rename_i h2; exact ⟨by omega, h2.1⟩
    · exact lastR_range n pr lv es (fun e he => h e (by simp [he]))

set_option maxRecDepth 100000 in
set_option maxHeartbeats 2000000 in
theorem lastOf_any (w : World) (L : Lay) (k : KS) (H : Hid (KAt w L k)) (HI : Hid (Inv k)) (pb po c : Nat) (pr : Nat → Int) (HP : Hid (∀ i, i < k.n → w.cell? ⟨pb, po + i, none⟩ = some (.int .i64 (pr i)))) (lv : Int) (T : Nat) (HT : Hid (k.trace.length = T)) (hT : T ≤ 256) :
    Calls Yapd.prog 67 #[.pointer (some ⟨L.kb, 0, none⟩), .slice (some ⟨pb, po, none⟩) k.n c, .int .i64 lv] w fun e w' => e = .returned (.int .i64 (lastOfK k pr lv)) ∧ Chg No w w' := by
  have f7 := H.out.f7
  have f0 := H.out.f0
  have f9 := H.out.f9
  rw [HT.out] at f9
  have hn := H.out.hn
  have k1 := cell_lt f0
  have HTR : Hid (∀ e, e ∈ k.trace → 0 ≤ e ∧ e ≤ 1000) := HI.out.tr
  go_enter Yapd.func67, Yapd.ntmps67
  go_wp2_with fail
  by_cases h0 : k.last = -1
  · rw [h0] at f7
    have HS : w.drew.cell? ⟨L.kb, 7, none⟩ = some (.int .i64 (-1)) ∧ w.drew.cell? ⟨L.kb, 0, none⟩ = some (.slice (some ⟨L.s, 0, none⟩) k.n k.n) := ⟨f7, f0⟩
    refine wp_region_S (fun W => W.cell? ⟨L.kb, 7, none⟩ = some (.int .i64 (-1)) ∧ W.cell? ⟨L.kb, 0, none⟩ = some (.slice (some ⟨L.s, 0, none⟩) k.n k.n)) [0, 1, 2, 3, 4, 5, 6, 7, 8, 9, 10, 11, 12, 13, 14, 15, 16, 17, 18, 19, 20, 21, 22, 23, 24, 25, 26] (by kernel_rfl) ?_
    refine wpAnyS_take 0 (Value.pointer (some ⟨L.kb, 0, none⟩)) rfl (by kernel_rfl) (by kernel_rfl) (by kernel_rfl) (by kernel_rfl) (fun _ _ _ h => h) (by rfl) HS (fun _ _ => rfl) ?_
    simp only [Act.put, List.setIfInBounds_toArray, List.set_cons_zero, List.set_cons_succ]
    refine wpAnyS_take 1 (Value.pointer (some ⟨L.kb, 0, none⟩)) rfl (by kernel_rfl) (by kernel_rfl) (by kernel_rfl) (by kernel_rfl) (fun _ _ _ h => h) (by rfl) HS (fun _ _ => rfl) ?_
    simp only [Act.put, List.setIfInBounds_toArray, List.set_cons_zero, List.set_cons_succ]
    refine wpAnyS_take 2 (Value.pointer (some ⟨L.kb, 7, none⟩)) rfl (by kernel_rfl) (by kernel_rfl) (by kernel_rfl) (by kernel_rfl) (fun _ _ _ h => h) (by rfl) HS (fun _ _ => by kernel_rfl) ?_
    simp only [Act.put, List.setIfInBounds_toArray, List.set_cons_zero, List.set_cons_succ]
    refine wpAnyS_take 3 (Value.int .i64 (-1)) rfl (by kernel_rfl) (by kernel_rfl) (by kernel_rfl) (by kernel_rfl) (fun _ _ _ h => h) (by rfl) HS (fun _ h => run_load3 rfl rfl (h.1)) ?_
    simp only [Act.put, List.setIfInBounds_toArray, List.set_cons_zero, List.set_cons_succ]
    refine wpAnyS_take 4 (Value.bool false) rfl (by kernel_rfl) (by kernel_rfl) (by kernel_rfl) (by kernel_rfl) (fun _ _ _ h => h) (by rfl) HS (fun _ _ => run_geq3 rfl rfl rfl rfl) ?_
    simp only [Act.put, List.setIfInBounds_toArray, List.set_cons_zero, List.set_cons_succ]
    refine wpAnyS_take 5 (Value.bool false) rfl (by kernel_rfl) (by kernel_rfl) (by kernel_rfl) (by kernel_rfl) (fun _ _ _ h => h) (by rfl) HS (fun _ _ => rfl) ?_
    simp only [Act.put, List.setIfInBounds_toArray, List.set_cons_zero, List.set_cons_succ]
    refine wpAnyS_skip 6 rfl (by kernel_rfl) (by kernel_rfl) (by kernel_rfl) (by kernel_rfl) (fun _ _ _ h => h) (by rfl) HS ?_
    simp only [Act.put, List.setIfInBounds_toArray, List.set_cons_zero, List.set_cons_succ]
    refine wpAnyS_skip 7 rfl (by kernel_rfl) (by kernel_rfl) (by kernel_rfl) (by kernel_rfl) (fun _ _ _ h => h) (by rfl) HS ?_
    simp only [Act.put, List.setIfInBounds_toArray, List.set_cons_zero, List.set_cons_succ]
    refine wpAnyS_skip 8 rfl (by kernel_rfl) (by kernel_rfl) (by kernel_rfl) (by kernel_rfl) (fun _ _ _ h => h) (by rfl) HS ?_
    simp only [Act.put, List.setIfInBounds_toArray, List.set_cons_zero, List.set_cons_succ]
    refine wpAnyS_skip 9 rfl (by kernel_rfl) (by kernel_rfl) (by kernel_rfl) (by kernel_rfl) (fun _ _ _ h => h) (by rfl) HS ?_
    simp only [Act.put, List.setIfInBounds_toArray, List.set_cons_zero, List.set_cons_succ]
    refine wpAnyS_skip 10 rfl (by kernel_rfl) (by kernel_rfl) (by kernel_rfl) (by kernel_rfl) (fun _ _ _ h => h) (by rfl) HS ?_
    simp only [Act.put, List.setIfInBounds_toArray, List.set_cons_zero, List.set_cons_succ]
    refine wpAnyS_skip 11 rfl (by kernel_rfl) (by kernel_rfl) (by kernel_rfl) (by kernel_rfl) (fun _ _ _ h => h) (by rfl) HS ?_
    simp only [Act.put, List.setIfInBounds_toArray, List.set_cons_zero, List.set_cons_succ]
    refine wpAnyS_skip 12 rfl (by kernel_rfl) (by kernel_rfl) (by kernel_rfl) (by kernel_rfl) (fun _ _ _ h => h) (by rfl) HS ?_
    simp only [Act.put, List.setIfInBounds_toArray, List.set_cons_zero, List.set_cons_succ]
    refine wpAnyS_skip 13 rfl (by kernel_rfl) (by kernel_rfl) (by kernel_rfl) (by kernel_rfl) (fun _ _ _ h => h) (by rfl) HS ?_
    simp only [Act.put, List.setIfInBounds_toArray, List.set_cons_zero, List.set_cons_succ]
    refine wpAnyS_skip 14 rfl (by kernel_rfl) (by kernel_rfl) (by kernel_rfl) (by kernel_rfl) (fun _ _ _ h => h) (by rfl) HS ?_
    simp only [Act.put, List.setIfInBounds_toArray, List.set_cons_zero, List.set_cons_succ]
    refine wpAnyS_skip 15 rfl (by kernel_rfl) (by kernel_rfl) (by kernel_rfl) (by kernel_rfl) (fun _ _ _ h => h) (by rfl) HS ?_
    simp only [Act.put, List.setIfInBounds_toArray, List.set_cons_zero, List.set_cons_succ]
    refine wpAnyS_take 16 (Value.bool false) rfl (by kernel_rfl) (by kernel_rfl) (by kernel_rfl) (by kernel_rfl) (fun _ _ _ h => h) (by rfl) HS (fun _ _ => by kernel_rfl) ?_
    simp only [Act.put, List.setIfInBounds_toArray, List.set_cons_zero, List.set_cons_succ]
    refine wpAnyS_take 17 (Value.bool false) rfl (by kernel_rfl) (by kernel_rfl) (by kernel_rfl) (by kernel_rfl) (fun _ _ _ h => h) (by rfl) HS (fun _ _ => rfl) ?_
    simp only [Act.put, List.setIfInBounds_toArray, List.set_cons_zero, List.set_cons_succ]
    refine wpAnyS_skip 18 rfl (by kernel_rfl) (by kernel_rfl) (by kernel_rfl) (by kernel_rfl) (fun _ _ _ h => h) (by rfl) HS ?_
    simp only [Act.put, List.setIfInBounds_toArray, List.set_cons_zero, List.set_cons_succ]
    refine wpAnyS_skip 19 rfl (by kernel_rfl) (by kernel_rfl) (by kernel_rfl) (by kernel_rfl) (fun _ _ _ h => h) (by rfl) HS ?_
    simp only [Act.put, List.setIfInBounds_toArray, List.set_cons_zero, List.set_cons_succ]
    refine wpAnyS_skip 20 rfl (by kernel_rfl) (by kernel_rfl) (by kernel_rfl) (by kernel_rfl) (fun _ _ _ h => h) (by rfl) HS ?_
    simp only [Act.put, List.setIfInBounds_toArray, List.set_cons_zero, List.set_cons_succ]
    refine wpAnyS_skip 21 rfl (by kernel_rfl) (by kernel_rfl) (by kernel_rfl) (by kernel_rfl) (fun _ _ _ h => h) (by rfl) HS ?_
    simp only [Act.put, List.setIfInBounds_toArray, List.set_cons_zero, List.set_cons_succ]
    refine wpAnyS_skip 22 rfl (by kernel_rfl) (by kernel_rfl) (by kernel_rfl) (by kernel_rfl) (fun _ _ _ h => h) (by rfl) HS ?_
    simp only [Act.put, List.setIfInBounds_toArray, List.set_cons_zero, List.set_cons_succ]
    refine wpAnyS_skip 23 rfl (by kernel_rfl) (by kernel_rfl) (by kernel_rfl) (by kernel_rfl) (fun _ _ _ h => h) (by rfl) HS ?_
    simp only [Act.put, List.setIfInBounds_toArray, List.set_cons_zero, List.set_cons_succ]
    refine wpAnyS_skip 24 rfl (by kernel_rfl) (by kernel_rfl) (by kernel_rfl) (by kernel_rfl) (fun _ _ _ h => h) (by rfl) HS ?_
    simp only [Act.put, List.setIfInBounds_toArray, List.set_cons_zero, List.set_cons_succ]
    refine wpAnyS_skip 25 rfl (by kernel_rfl) (by kernel_rfl) (by kernel_rfl) (by kernel_rfl) (fun _ _ _ h => h) (by rfl) HS ?_
    simp only [Act.put, List.setIfInBounds_toArray, List.set_cons_zero, List.set_cons_succ]
    refine wpAnyS_take 26 (Value.bool false) rfl (by kernel_rfl) (by kernel_rfl) (by kernel_rfl) (by kernel_rfl) (fun _ _ _ h => h) (by rfl) HS (fun _ _ => by kernel_rfl) ?_
    simp only [Act.put, List.setIfInBounds_toArray, List.set_cons_zero, List.set_cons_succ]
    refine wpAnyS_done (by kernel_rfl) ?_
    go_wp2_with fail
    have HR : Hid (lastOfK k pr lv = lastR k.n pr lv k.trace.reverse) := if_neg (fun h => by omega)
    clear h0
    clear f7 HS
    go_loop [7] (fun iv => ∃ j : Nat, j ≤ T ∧ iv = .int .i64 ((j : Int) - 1) ∧ Hid (lastR k.n pr lv k.trace.reverse = lastR k.n pr lv (k.trace.take j).reverse)) (fun iv => (intOf iv + 1).toNat)
    case atStart => exact ⟨T, by omega, rfl, by unfold Hid; rw [← HT.out, List.take_length]⟩
    case round =>
      obtain ⟨j, hj, rfl, HL⟩ := hrel
      rcases j with _ | j
      · go_wp2_with fail
        go_ret
        exact ⟨by rw [HR.out, HL.out]; rfl, (Chg.refl _ _).drew⟩
      · have ej : (((j + 1 : Nat) : Int) - 1) = (j : Int) := by omega
        rw [ej]
        have c9 : w.cell? ⟨L.t, j, none⟩ = some (.int .i64 (k.trace.getD j 0)) := H.out.t.cell (by rw [HT.out]; omega)
        obtain ⟨hb0, hb1⟩ := HTR.out (k.trace.getD j 0) (by have hjl : j < k.trace.length := (by rw [HT.out]; omega); simp [List.getD, hjl])
        have HS1 : Hid (lastR k.n pr lv (k.trace.take (j + 1)).reverse = if k.trace.getD j 0 / 16 < (k.n : Int) ∧ pr (k.trace.getD j 0 / 16).toNat = lv then k.trace.getD j 0 / 16 else lastR k.n pr lv (k.trace.take j).reverse) := by
          unfold Hid
          have hjl : j < k.trace.length := by rw [HT.out]; omega
          rw [show k.trace.getD j 0 = k.trace[j] by simp [List.getD, hjl], show k.trace.take (j + 1) = k.trace.take j ++ [k.trace[j]] by simp, List.reverse_append]
          rfl
        have k9 := cell_lt c9
        generalize k.trace.getD j 0 = e at *
        obtain ⟨y, hy⟩ := Int.eq_ofNat_of_zero_le (show 0 ≤ e / 16 by omega)
        rw [hy] at HS1
        have HY : Hid (e / 16 = (y : Int)) := hy
        clear ej
        by_cases hyn : y < k.n
        · go_wp2_with fail
          refine (priority_any w.drew pb po k.n c pr HP y hyn).mono ?_
          rintro e' w' ⟨rfl, hw⟩
          subst w'
          by_cases heq : pr y = lv
          · have hq : (pr y == lv) = true := by simpa using heq
            have HQ : Hid (pr y = lv) := heq
            clear heq
            go_wp2_with fail
            go_ret
            exact ⟨by rw [HR.out, HL.out, HS1.out, if_pos ⟨by omega, by simpa using HQ.out⟩]; rfl, (Chg.refl _ _).drew⟩
          · have hq : (pr y == lv) = false := by simpa using heq
            have HQ : Hid (¬ pr y = lv) := heq
            clear heq
            go_wp2_with fail
            go_round
            case rel => exact ⟨j, by omega, by first | rfl | go_num, by unfold Hid; rw [HL.out, HS1.out, if_neg (fun h => HQ.out (by simpa using h.2))]⟩
            case measure => simp [intOf]
        · go_wp2_with fail
          go_round
          case rel => exact ⟨j, by omega, by first | rfl | go_num, by unfold Hid; rw [HL.out, HS1.out, if_neg (fun h => by omega)]⟩
          case measure => simp [intOf]
  · obtain ⟨x, hx0⟩ := Int.eq_ofNat_of_zero_le (show 0 ≤ k.last by have := HI.out.last.1; omega)
    have hx : x < k.n := by have := HI.out.last.2; omega
    rw [hx0] at f7
    have hg : decide ((x : Int) ≥ 0) = true := by simp
    have hl : decide ((x : Int) < (k.n : Int)) = true := by simpa using hx
    have HS : w.drew.cell? ⟨L.kb, 7, none⟩ = some (.int .i64 (x : Int)) ∧ w.drew.cell? ⟨L.kb, 0, none⟩ = some (.slice (some ⟨L.s, 0, none⟩) k.n k.n) := ⟨f7, f0⟩
    by_cases he0 : pr x = lv
    · have he : (pr x == lv) = true := by simpa using he0
      refine wp_region_S (fun W => W.cell? ⟨L.kb, 7, none⟩ = some (.int .i64 (x : Int)) ∧ W.cell? ⟨L.kb, 0, none⟩ = some (.slice (some ⟨L.s, 0, none⟩) k.n k.n)) [0, 1, 2, 3, 4, 5, 6, 7, 8, 9, 10, 11, 12, 13, 14, 15, 16, 17, 18, 19, 20, 21, 22, 24, 25, 26] (by kernel_rfl) ?_
      refine wpAnyS_take 0 (Value.pointer (some ⟨L.kb, 0, none⟩)) rfl (by kernel_rfl) (by kernel_rfl) (by kernel_rfl) (by kernel_rfl) (fun _ _ _ h => h) (by rfl) HS (fun _ _ => rfl) ?_
      simp only [Act.put, List.setIfInBounds_toArray, List.set_cons_zero, List.set_cons_succ]
      refine wpAnyS_take 1 (Value.pointer (some ⟨L.kb, 0, none⟩)) rfl (by kernel_rfl) (by kernel_rfl) (by kernel_rfl) (by kernel_rfl) (fun _ _ _ h => h) (by rfl) HS (fun _ _ => rfl) ?_
      simp only [Act.put, List.setIfInBounds_toArray, List.set_cons_zero, List.set_cons_succ]
      refine wpAnyS_take 2 (Value.pointer (some ⟨L.kb, 7, none⟩)) rfl (by kernel_rfl) (by kernel_rfl) (by kernel_rfl) (by kernel_rfl) (fun _ _ _ h => h) (by rfl) HS (fun _ _ => by kernel_rfl) ?_
      simp only [Act.put, List.setIfInBounds_toArray, List.set_cons_zero, List.set_cons_succ]
      refine wpAnyS_take 3 (Value.int .i64 (x : Int)) rfl (by kernel_rfl) (by kernel_rfl) (by kernel_rfl) (by kernel_rfl) (fun _ _ _ h => h) (by rfl) HS (fun _ h => run_load3 rfl rfl (h.1)) ?_
      simp only [Act.put, List.setIfInBounds_toArray, List.set_cons_zero, List.set_cons_succ]
      refine wpAnyS_take 4 (Value.bool true) rfl (by kernel_rfl) (by kernel_rfl) (by kernel_rfl) (by kernel_rfl) (fun _ _ _ h => h) (by rfl) HS (fun _ _ => run_geq3 rfl rfl rfl hg) ?_
      simp only [Act.put, List.setIfInBounds_toArray, List.set_cons_zero, List.set_cons_succ]
      refine wpAnyS_take 5 (Value.bool true) rfl (by kernel_rfl) (by kernel_rfl) (by kernel_rfl) (by kernel_rfl) (fun _ _ _ h => h) (by rfl) HS (fun _ _ => rfl) ?_
      simp only [Act.put, List.setIfInBounds_toArray, List.set_cons_zero, List.set_cons_succ]
      refine wpAnyS_take 6 (Value.pointer (some ⟨L.kb, 0, none⟩)) rfl (by kernel_rfl) (by kernel_rfl) (by kernel_rfl) (by kernel_rfl) (fun _ _ _ h => h) (by rfl) HS (fun _ _ => rfl) ?_
      simp only [Act.put, List.setIfInBounds_toArray, List.set_cons_zero, List.set_cons_succ]
      refine wpAnyS_take 7 (Value.pointer (some ⟨L.kb, 0, none⟩)) rfl (by kernel_rfl) (by kernel_rfl) (by kernel_rfl) (by kernel_rfl) (fun _ _ _ h => h) (by rfl) HS (fun _ _ => rfl) ?_
      simp only [Act.put, List.setIfInBounds_toArray, List.set_cons_zero, List.set_cons_succ]
      refine wpAnyS_take 8 (Value.pointer (some ⟨L.kb, 7, none⟩)) rfl (by kernel_rfl) (by kernel_rfl) (by kernel_rfl) (by kernel_rfl) (fun _ _ _ h => h) (by rfl) HS (fun _ _ => by kernel_rfl) ?_
      simp only [Act.put, List.setIfInBounds_toArray, List.set_cons_zero, List.set_cons_succ]
      refine wpAnyS_take 9 (Value.int .i64 (x : Int)) rfl (by kernel_rfl) (by kernel_rfl) (by kernel_rfl) (by kernel_rfl) (fun _ _ _ h => h) (by rfl) HS (fun _ h => run_load3 rfl rfl (h.1)) ?_
      simp only [Act.put, List.setIfInBounds_toArray, List.set_cons_zero, List.set_cons_succ]
      refine wpAnyS_take 10 (Value.pointer (some ⟨L.kb, 0, none⟩)) rfl (by kernel_rfl) (by kernel_rfl) (by kernel_rfl) (by kernel_rfl) (fun _ _ _ h => h) (by rfl) HS (fun _ _ => rfl) ?_
      simp only [Act.put, List.setIfInBounds_toArray, List.set_cons_zero, List.set_cons_succ]
      refine wpAnyS_take 11 (Value.pointer (some ⟨L.kb, 0, none⟩)) rfl (by kernel_rfl) (by kernel_rfl) (by kernel_rfl) (by kernel_rfl) (fun _ _ _ h => h) (by rfl) HS (fun _ _ => rfl) ?_
      simp only [Act.put, List.setIfInBounds_toArray, List.set_cons_zero, List.set_cons_succ]
      refine wpAnyS_take 12 (Value.pointer (some ⟨L.kb, 0, none⟩)) rfl (by kernel_rfl) (by kernel_rfl) (by kernel_rfl) (by kernel_rfl) (fun _ _ _ h => h) (by rfl) HS (fun _ _ => by kernel_rfl) ?_
      simp only [Act.put, List.setIfInBounds_toArray, List.set_cons_zero, List.set_cons_succ]
      refine wpAnyS_take 13 (Value.slice (some ⟨L.s, 0, none⟩) k.n k.n) rfl (by kernel_rfl) (by kernel_rfl) (by kernel_rfl) (by kernel_rfl) (fun _ _ _ h => h) (by rfl) HS (fun _ h => run_load23 rfl rfl (h.2)) ?_
      simp only [Act.put, List.setIfInBounds_toArray, List.set_cons_zero, List.set_cons_succ]
      refine wpAnyS_take 14 (Value.int .i64 (k.n : Int)) rfl (by kernel_rfl) (by kernel_rfl) (by kernel_rfl) (by kernel_rfl) (fun _ _ _ h => h) (by rfl) HS (fun _ _ => by kernel_rfl) ?_
      simp only [Act.put, List.setIfInBounds_toArray, List.set_cons_zero, List.set_cons_succ]
      refine wpAnyS_take 15 (Value.bool true) rfl (by kernel_rfl) (by kernel_rfl) (by kernel_rfl) (by kernel_rfl) (fun _ _ _ h => h) (by rfl) HS (fun _ _ => run_lss3 rfl rfl rfl hl) ?_
      simp only [Act.put, List.setIfInBounds_toArray, List.set_cons_zero, List.set_cons_succ]
      refine wpAnyS_take 16 (Value.bool true) rfl (by kernel_rfl) (by kernel_rfl) (by kernel_rfl) (by kernel_rfl) (fun _ _ _ h => h) (by rfl) HS (fun _ _ => by kernel_rfl) ?_
      simp only [Act.put, List.setIfInBounds_toArray, List.set_cons_zero, List.set_cons_succ]
      refine wpAnyS_take 17 (Value.bool true) rfl (by kernel_rfl) (by kernel_rfl) (by kernel_rfl) (by kernel_rfl) (fun _ _ _ h => h) (by rfl) HS (fun _ _ => rfl) ?_
      simp only [Act.put, List.setIfInBounds_toArray, List.set_cons_zero, List.set_cons_succ]
      refine wpAnyS_take 18 (Value.slice (some ⟨pb, po, none⟩) k.n c) rfl (by kernel_rfl) (by kernel_rfl) (by kernel_rfl) (by kernel_rfl) (fun _ _ _ h => h) (by rfl) HS (fun _ _ => rfl) ?_
      simp only [Act.put, List.setIfInBounds_toArray, List.set_cons_zero, List.set_cons_succ]
      refine wpAnyS_take 19 (Value.pointer (some ⟨L.kb, 0, none⟩)) rfl (by kernel_rfl) (by kernel_rfl) (by kernel_rfl) (by kernel_rfl) (fun _ _ _ h => h) (by rfl) HS (fun _ _ => rfl) ?_
      simp only [Act.put, List.setIfInBounds_toArray, List.set_cons_zero, List.set_cons_succ]
      refine wpAnyS_take 20 (Value.pointer (some ⟨L.kb, 0, none⟩)) rfl (by kernel_rfl) (by kernel_rfl) (by kernel_rfl) (by kernel_rfl) (fun _ _ _ h => h) (by rfl) HS (fun _ _ => rfl) ?_
      simp only [Act.put, List.setIfInBounds_toArray, List.set_cons_zero, List.set_cons_succ]
      refine wpAnyS_take 21 (Value.pointer (some ⟨L.kb, 7, none⟩)) rfl (by kernel_rfl) (by kernel_rfl) (by kernel_rfl) (by kernel_rfl) (fun _ _ _ h => h) (by rfl) HS (fun _ _ => by kernel_rfl) ?_
      simp only [Act.put, List.setIfInBounds_toArray, List.set_cons_zero, List.set_cons_succ]
      refine wpAnyS_take 22 (Value.int .i64 (x : Int)) rfl (by kernel_rfl) (by kernel_rfl) (by kernel_rfl) (by kernel_rfl) (fun _ _ _ h => h) (by rfl) HS (fun _ h => run_load3 rfl rfl (h.1)) ?_
      simp only [Act.put, List.setIfInBounds_toArray, List.set_cons_zero, List.set_cons_succ]
      refine wpAnyS_take 24 (Value.int .i64 lv) rfl (by kernel_rfl) (by kernel_rfl) (by kernel_rfl) (by kernel_rfl) (fun _ _ _ h => h) (by rfl) HS (fun _ _ => rfl) ?_
      simp only [Act.put, List.setIfInBounds_toArray, List.set_cons_zero, List.set_cons_succ]
      refine wpAnyS_one 23 rfl (by kernel_rfl) (by rfl) ?_
      refine wp_callF 66 Yapd.func66 rfl (by kernel_rfl) [.slice (some ⟨pb, po, none⟩) k.n c, .int .i64 (x : Int)] rfl rfl (fun v w' => v = .int .i64 (pr x) ∧ w' = w.drew)
        ((priority_any w.drew pb po k.n c pr HP x hx).mono fun e w' h => ⟨_, h.1, rfl, h.2⟩) ?_
      rintro v w' ⟨rfl, hw⟩
      subst w'
      refine ⟨.inr HS, ?_⟩
      simp only [Act.put, List.setIfInBounds_toArray, List.set_cons_zero, List.set_cons_succ]
      refine wpAnyS_take 25 (Value.bool true) rfl (by kernel_rfl) (by kernel_rfl) (by kernel_rfl) (by kernel_rfl) (fun _ _ _ h => h) (by rfl) HS (fun _ _ => run_eql3 rfl rfl rfl he) ?_
      simp only [Act.put, List.setIfInBounds_toArray, List.set_cons_zero, List.set_cons_succ]
      refine wpAnyS_take 26 (Value.bool true) rfl (by kernel_rfl) (by kernel_rfl) (by kernel_rfl) (by kernel_rfl) (fun _ _ _ h => h) (by rfl) HS (fun _ _ => by kernel_rfl) ?_
      simp only [Act.put, List.setIfInBounds_toArray, List.set_cons_zero, List.set_cons_succ]
      refine wpAnyS_done (by kernel_rfl) ?_
      go_wp2_with fail
      go_ret
      exact ⟨by rw [lastOfK, if_pos ⟨by omega, by rw [hx0]; simpa using he0⟩, hx0]; rfl, (Chg.refl _ _).drew⟩
    · have he : (pr x == lv) = false := by simpa using he0
      refine wp_region_S (fun W => W.cell? ⟨L.kb, 7, none⟩ = some (.int .i64 (x : Int)) ∧ W.cell? ⟨L.kb, 0, none⟩ = some (.slice (some ⟨L.s, 0, none⟩) k.n k.n)) [0, 1, 2, 3, 4, 5, 6, 7, 8, 9, 10, 11, 12, 13, 14, 15, 16, 17, 18, 19, 20, 21, 22, 24, 25, 26] (by kernel_rfl) ?_
      refine wpAnyS_take 0 (Value.pointer (some ⟨L.kb, 0, none⟩)) rfl (by kernel_rfl) (by kernel_rfl) (by kernel_rfl) (by kernel_rfl) (fun _ _ _ h => h) (by rfl) HS (fun _ _ => rfl) ?_
      simp only [Act.put, List.setIfInBounds_toArray, List.set_cons_zero, List.set_cons_succ]
      refine wpAnyS_take 1 (Value.pointer (some ⟨L.kb, 0, none⟩)) rfl (by kernel_rfl) (by kernel_rfl) (by kernel_rfl) (by kernel_rfl) (fun _ _ _ h => h) (by rfl) HS (fun _ _ => rfl) ?_
      simp only [Act.put, List.setIfInBounds_toArray, List.set_cons_zero, List.set_cons_succ]
      refine wpAnyS_take 2 (Value.pointer (some ⟨L.kb, 7, none⟩)) rfl (by kernel_rfl) (by kernel_rfl) (by kernel_rfl) (by kernel_rfl) (fun _ _ _ h => h) (by rfl) HS (fun _ _ => by kernel_rfl) ?_
      simp only [Act.put, List.setIfInBounds_toArray, List.set_cons_zero, List.set_cons_succ]
      refine wpAnyS_take 3 (Value.int .i64 (x : Int)) rfl (by kernel_rfl) (by kernel_rfl) (by kernel_rfl) (by kernel_rfl) (fun _ _ _ h => h) (by rfl) HS (fun _ h => run_load3 rfl rfl (h.1)) ?_
      simp only [Act.put, List.setIfInBounds_toArray, List.set_cons_zero, List.set_cons_succ]
      refine wpAnyS_take 4 (Value.bool true) rfl (by kernel_rfl) (by kernel_rfl) (by kernel_rfl) (by kernel_rfl) (fun _ _ _ h => h) (by rfl) HS (fun _ _ => run_geq3 rfl rfl rfl hg) ?_
      simp only [Act.put, List.setIfInBounds_toArray, List.set_cons_zero, List.set_cons_succ]
      refine wpAnyS_take 5 (Value.bool true) rfl (by kernel_rfl) (by kernel_rfl) (by kernel_rfl) (by kernel_rfl) (fun _ _ _ h => h) (by rfl) HS (fun _ _ => rfl) ?_
      simp only [Act.put, List.setIfInBounds_toArray, List.set_cons_zero, List.set_cons_succ]
      refine wpAnyS_take 6 (Value.pointer (some ⟨L.kb, 0, none⟩)) rfl (by kernel_rfl) (by kernel_rfl) (by kernel_rfl) (by kernel_rfl) (fun _ _ _ h => h) (by rfl) HS (fun _ _ => rfl) ?_
      simp only [Act.put, List.setIfInBounds_toArray, List.set_cons_zero, List.set_cons_succ]
      refine wpAnyS_take 7 (Value.pointer (some ⟨L.kb, 0, none⟩)) rfl (by kernel_rfl) (by kernel_rfl) (by kernel_rfl) (by kernel_rfl) (fun _ _ _ h => h) (by rfl) HS (fun _ _ => rfl) ?_
      simp only [Act.put, List.setIfInBounds_toArray, List.set_cons_zero, List.set_cons_succ]
      refine wpAnyS_take 8 (Value.pointer (some ⟨L.kb, 7, none⟩)) rfl (by kernel_rfl) (by kernel_rfl) (by kernel_rfl) (by kernel_rfl) (fun _ _ _ h => h) (by rfl) HS (fun _ _ => by kernel_rfl) ?_
      simp only [Act.put, List.setIfInBounds_toArray, List.set_cons_zero, List.set_cons_succ]
      refine wpAnyS_take 9 (Value.int .i64 (x : Int)) rfl (by kernel_rfl) (by kernel_rfl) (by kernel_rfl) (by kernel_rfl) (fun _ _ _ h => h) (by rfl) HS (fun _ h => run_load3 rfl rfl (h.1)) ?_
      simp only [Act.put, List.setIfInBounds_toArray, List.set_cons_zero, List.set_cons_succ]
      refine wpAnyS_take 10 (Value.pointer (some ⟨L.kb, 0, none⟩)) rfl (by kernel_rfl) (by kernel_rfl) (by kernel_rfl) (by kernel_rfl) (fun _ _ _ h => h) (by rfl) HS (fun _ _ => rfl) ?_
      simp only [Act.put, List.setIfInBounds_toArray, List.set_cons_zero, List.set_cons_succ]
      refine wpAnyS_take 11 (Value.pointer (some ⟨L.kb, 0, none⟩)) rfl (by kernel_rfl) (by kernel_rfl) (by kernel_rfl) (by kernel_rfl) (fun _ _ _ h => h) (by rfl) HS (fun _ _ => rfl) ?_
      simp only [Act.put, List.setIfInBounds_toArray, List.set_cons_zero, List.set_cons_succ]
      refine wpAnyS_take 12 (Value.pointer (some ⟨L.kb, 0, none⟩)) rfl (by kernel_rfl) (by kernel_rfl) (by kernel_rfl) (by kernel_rfl) (fun _ _ _ h => h) (by rfl) HS (fun _ _ => by kernel_rfl) ?_
      simp only [Act.put, List.setIfInBounds_toArray, List.set_cons_zero, List.set_cons_succ]
      refine wpAnyS_take 13 (Value.slice (some ⟨L.s, 0, none⟩) k.n k.n) rfl (by kernel_rfl) (by kernel_rfl) (by kernel_rfl) (by kernel_rfl) (fun _ _ _ h => h) (by rfl) HS (fun _ h => run_load23 rfl rfl (h.2)) ?_
      simp only [Act.put, List.setIfInBounds_toArray, List.set_cons_zero, List.set_cons_succ]
      refine wpAnyS_take 14 (Value.int .i64 (k.n : Int)) rfl (by kernel_rfl) (by kernel_rfl) (by kernel_rfl) (by kernel_rfl) (fun _ _ _ h => h) (by rfl) HS (fun _ _ => by kernel_rfl) ?_
      simp only [Act.put, List.setIfInBounds_toArray, List.set_cons_zero, List.set_cons_succ]
      refine wpAnyS_take 15 (Value.bool true) rfl (by kernel_rfl) (by kernel_rfl) (by kernel_rfl) (by kernel_rfl) (fun _ _ _ h => h) (by rfl) HS (fun _ _ => run_lss3 rfl rfl rfl hl) ?_
      simp only [Act.put, List.setIfInBounds_toArray, List.set_cons_zero, List.set_cons_succ]
      refine wpAnyS_take 16 (Value.bool true) rfl (by kernel_rfl) (by kernel_rfl) (by kernel_rfl) (by kernel_rfl) (fun _ _ _ h => h) (by rfl) HS (fun _ _ => by kernel_rfl) ?_
      simp only [Act.put, List.setIfInBounds_toArray, List.set_cons_zero, List.set_cons_succ]
      refine wpAnyS_take 17 (Value.bool true) rfl (by kernel_rfl) (by kernel_rfl) (by kernel_rfl) (by kernel_rfl) (fun _ _ _ h => h) (by rfl) HS (fun _ _ => rfl) ?_
      simp only [Act.put, List.setIfInBounds_toArray, List.set_cons_zero, List.set_cons_succ]
      refine wpAnyS_take 18 (Value.slice (some ⟨pb, po, none⟩) k.n c) rfl (by kernel_rfl) (by kernel_rfl) (by kernel_rfl) (by kernel_rfl) (fun _ _ _ h => h) (by rfl) HS (fun _ _ => rfl) ?_
      simp only [Act.put, List.setIfInBounds_toArray, List.set_cons_zero, List.set_cons_succ]
      refine wpAnyS_take 19 (Value.pointer (some ⟨L.kb, 0, none⟩)) rfl (by kernel_rfl) (by kernel_rfl) (by kernel_rfl) (by kernel_rfl) (fun _ _ _ h => h) (by rfl) HS (fun _ _ => rfl) ?_
      simp only [Act.put, List.setIfInBounds_toArray, List.set_cons_zero, List.set_cons_succ]
      refine wpAnyS_take 20 (Value.pointer (some ⟨L.kb, 0, none⟩)) rfl (by kernel_rfl) (by kernel_rfl) (by kernel_rfl) (by kernel_rfl) (fun _ _ _ h => h) (by rfl) HS (fun _ _ => rfl) ?_
      simp only [Act.put, List.setIfInBounds_toArray, List.set_cons_zero, List.set_cons_succ]
      refine wpAnyS_take 21 (Value.pointer (some ⟨L.kb, 7, none⟩)) rfl (by kernel_rfl) (by kernel_rfl) (by kernel_rfl) (by kernel_rfl) (fun _ _ _ h => h) (by rfl) HS (fun _ _ => by kernel_rfl) ?_
      simp only [Act.put, List.setIfInBounds_toArray, List.set_cons_zero, List.set_cons_succ]
      refine wpAnyS_take 22 (Value.int .i64 (x : Int)) rfl (by kernel_rfl) (by kernel_rfl) (by kernel_rfl) (by kernel_rfl) (fun _ _ _ h => h) (by rfl) HS (fun _ h => run_load3 rfl rfl (h.1)) ?_
      simp only [Act.put, List.setIfInBounds_toArray, List.set_cons_zero, List.set_cons_succ]
      refine wpAnyS_take 24 (Value.int .i64 lv) rfl (by kernel_rfl) (by kernel_rfl) (by kernel_rfl) (by kernel_rfl) (fun _ _ _ h => h) (by rfl) HS (fun _ _ => rfl) ?_
      simp only [Act.put, List.setIfInBounds_toArray, List.set_cons_zero, List.set_cons_succ]
      refine wpAnyS_one 23 rfl (by kernel_rfl) (by rfl) ?_
      refine wp_callF 66 Yapd.func66 rfl (by kernel_rfl) [.slice (some ⟨pb, po, none⟩) k.n c, .int .i64 (x : Int)] rfl rfl (fun v w' => v = .int .i64 (pr x) ∧ w' = w.drew)
        ((priority_any w.drew pb po k.n c pr HP x hx).mono fun e w' h => ⟨_, h.1, rfl, h.2⟩) ?_
      rintro v w' ⟨rfl, hw⟩
      subst w'
      refine ⟨.inr HS, ?_⟩
      simp only [Act.put, List.setIfInBounds_toArray, List.set_cons_zero, List.set_cons_succ]
      refine wpAnyS_take 25 (Value.bool false) rfl (by kernel_rfl) (by kernel_rfl) (by kernel_rfl) (by kernel_rfl) (fun _ _ _ h => h) (by rfl) HS (fun _ _ => run_eql3 rfl rfl rfl he) ?_
      simp only [Act.put, List.setIfInBounds_toArray, List.set_cons_zero, List.set_cons_succ]
      refine wpAnyS_take 26 (Value.bool false) rfl (by kernel_rfl) (by kernel_rfl) (by kernel_rfl) (by kernel_rfl) (fun _ _ _ h => h) (by rfl) HS (fun _ _ => by kernel_rfl) ?_
      simp only [Act.put, List.setIfInBounds_toArray, List.set_cons_zero, List.set_cons_succ]
      refine wpAnyS_done (by kernel_rfl) ?_
      go_wp2_with fail
      have HR : Hid (lastOfK k pr lv = lastR k.n pr lv k.trace.reverse) := if_neg (fun h => he0 (by have := h.2; rw [hx0] at this; simpa using this))
      clear h0 hx0 hg hl he he0
      clear f7 HS
      go_loop [7] (fun iv => ∃ j : Nat, j ≤ T ∧ iv = .int .i64 ((j : Int) - 1) ∧ Hid (lastR k.n pr lv k.trace.reverse = lastR k.n pr lv (k.trace.take j).reverse)) (fun iv => (intOf iv + 1).toNat)
      case atStart => exact ⟨T, by omega, rfl, by unfold Hid; rw [← HT.out, List.take_length]⟩
      case round =>
        obtain ⟨j, hj, rfl, HL⟩ := hrel
        rcases j with _ | j
        · go_wp2_with fail
          go_ret
          exact ⟨by rw [HR.out, HL.out]; rfl, (Chg.refl _ _).drew⟩
        · have ej : (((j + 1 : Nat) : Int) - 1) = (j : Int) := by omega
          rw [ej]
          have c9 : w.cell? ⟨L.t, j, none⟩ = some (.int .i64 (k.trace.getD j 0)) := H.out.t.cell (by rw [HT.out]; omega)
          obtain ⟨hb0, hb1⟩ := HTR.out (k.trace.getD j 0) (by have hjl : j < k.trace.length := (by rw [HT.out]; omega); simp [List.getD, hjl])
          have HS1 : Hid (lastR k.n pr lv (k.trace.take (j + 1)).reverse = if k.trace.getD j 0 / 16 < (k.n : Int) ∧ pr (k.trace.getD j 0 / 16).toNat = lv then k.trace.getD j 0 / 16 else lastR k.n pr lv (k.trace.take j).reverse) := by
            unfold Hid
            have hjl : j < k.trace.length := by rw [HT.out]; omega
            rw [show k.trace.getD j 0 = k.trace[j] by simp [List.getD, hjl], show k.trace.take (j + 1) = k.trace.take j ++ [k.trace[j]] by simp, List.reverse_append]
            rfl
          have k9 := cell_lt c9
          generalize k.trace.getD j 0 = e at *
          obtain ⟨y, hy⟩ := Int.eq_ofNat_of_zero_le (show 0 ≤ e / 16 by omega)
          rw [hy] at HS1
          have HY : Hid (e / 16 = (y : Int)) := hy
          clear ej
          by_cases hyn : y < k.n
          · go_wp2_with fail
            refine (priority_any w.drew pb po k.n c pr HP y hyn).mono ?_
            rintro e' w' ⟨rfl, hw⟩
            subst w'
            by_cases heq : pr y = lv
            · have hq : (pr y == lv) = true := by simpa using heq
              have HQ : Hid (pr y = lv) := heq
              clear heq
              go_wp2_with fail
              go_ret
              exact ⟨by rw [HR.out, HL.out, HS1.out, if_pos ⟨by omega, by simpa using HQ.out⟩]; rfl, (Chg.refl _ _).drew⟩
            · have hq : (pr y == lv) = false := by simpa using heq
              have HQ : Hid (¬ pr y = lv) := heq
              clear heq
              go_wp2_with fail
              go_round
              case rel => exact ⟨j, by omega, by first | rfl | go_num, by unfold Hid; rw [HL.out, HS1.out, if_neg (fun h => HQ.out (by simpa using h.2))]⟩
              case measure => simp [intOf]
          · go_wp2_with fail
            go_round
            case rel => exact ⟨j, by omega, by first | rfl | go_num, by unfold Hid; rw [HL.out, HS1.out, if_neg (fun h => by omega)]⟩
            case measure => simp [intOf]
end Go.Proofs.Ygdapg
