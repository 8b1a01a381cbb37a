/-
  fair, WALKED.
-/
import Derived.Test.YgdapgJ1
import Derived.BigRegion
set_option linter.unusedSimpArgs false
set_option linter.unusedVariables false
namespace Go.Proofs.Ygdapg
open Go.RowKit

/-- What fair counts for q. -/
def wst (m : Mo) (z : Int) (q : Nat) : Int :=
  if (q : Int) = m.p ∨ (m.kd = 7 ∧ m.a = (q : Int)) then (if m.st q = 0 then 0 else -1)
  else if 0 ≤ z then z + 1 else if m.st q = 0 then 0 else -1
def wt (ms : List Mo) : Nat → Nat → Int
  | 0, _ => -1
  | i + 1, q => match ms[i]? with
    | some m => wst m (wt ms i q) q
    | none => wt ms i q
theorem wt_succ {ms : List Mo} {i : Nat} {m : Mo} (h : ms[i]? = some m) (q : Nat) : wt ms (i + 1) q = wst m (wt ms i q) q := by
  simp [wt, h]
def FairOk (N : Nat) (ms : List Mo) : Prop := ∀ i, i ≤ ms.length → ∀ q, q < N → -1 ≤ wt ms i q ∧ wt ms i q < (N : Int)

theorem updV_twice (F : Nat → Value) (j : Nat) (a b : Value) : updV (updV F j a) j b = updV F j b := by
  funext x; unfold updV; split <;> rfl

set_option maxRecDepth 100000 in
set_option maxHeartbeats 4000000 in
theorem fair_any (w : World) (B N : Nat) (V mv : Value) (X : Nat → Prop) (ms : List Mo) (cf : Nat → List Value) (H : Hid (HistAt B w V X N mv ms cf)) (hN : N ≤ 8) (M : Nat) (HM : Hid (ms.length = M)) (hM : M ≤ 256) (HK : Hid (FairOk N ms)) (h0 : Hid (0 < M → 0 < N)) (HV : Hid (∃ a m c, V = .slice a m c)) :
    Calls Yapd.prog 21 #[.agg #[.int .i64 (N : Int), .bool true, mv, V]] w fun e w' => e = .returned (.bool true) ∧ Chg No w w' := by
  obtain ⟨mq, nq, rfl⟩ : ∃ mq nq, mv = .slice mq M nq := by rw [← HM.out]; exact H.out.shape
  obtain ⟨qa, qm, qc, rfl⟩ := HV.out
  go_enter Yapd.func21, Yapd.ntmps21
  go_wp2_with fail
  have hb0 : (w.alloc (.cells #[.int .i64 (N : Int), .bool true, .slice mq M nq, .slice qa qm qc] 32)).heap[w.heap.size]? = some (.cells #[.int .i64 (N : Int), .bool true, .slice mq M nq, .slice qa qm qc] 32 (0, 0)) := heap_alloc_new' _ _
  have C0 : Chg No w (w.alloc (.cells #[.int .i64 (N : Int), .bool true, .slice mq M nq, .slice qa qm qc] 32)) := (Chg.refl _ _).alloc _
  generalize w.alloc (.cells #[.int .i64 (N : Int), .bool true, .slice mq M nq, .slice qa qm qc] 32) = W0 at *
  rw [make_ints W0 N N (Nat.le_refl _) (by omega)]
  simp only [Result.andThen_ok]
  go_wp2_with fail
  have R1 : RowV (W0.alloc (.cells (arr N fun _ => 0) 3)) W0.heap.size N (mid (fun _ => .int .i64 (-1)) (fun _ => .int .i64 0) 0) := by
    rw [mid_zero]; exact RowV.ints W0 N _
  have C1 : Chg No W0 (W0.alloc (.cells (arr N fun _ => 0) 3)) := (Chg.refl _ _).alloc _
  have hb1 : (W0.alloc (.cells (arr N fun _ => 0) 3)).heap[w.heap.size]? = some (.cells #[.int .i64 (N : Int), .bool true, .slice mq M nq, .slice qa qm qc] 32 (0, 0)) := by
    rw [C1.block _ (heap_lt hb0) (fun h => h)]; exact hb0
  have HD : Hid (w.heap.size < W0.heap.size) := heap_lt hb0
  generalize W0.alloc (.cells (arr N fun _ => 0) 3) = W1 at *
  have HB1 : Hid (W1.heap[w.heap.size]? = some (.cells #[.int .i64 (N : Int), .bool true, .slice mq M nq, .slice qa qm qc] 32 (0, 0))) := hb1
  have HC1 : Hid (Chg No w W1) := C0.trans C1
  have HR1 : Hid (RowV W1 W0.heap.size N (mid (fun _ => .int .i64 (-1)) (fun _ => .int .i64 0) 0)) := R1
  clear R1 C1 C0 hb0 hb1
  generalize W0.heap.size = db at *
  go_loopw [4] (fun qv wq => ∃ j : Nat, j ≤ N ∧ qv = .int .i64 j ∧ Hid (RowV wq db N (mid (fun _ => .int .i64 (-1)) (fun _ => .int .i64 0) j)) ∧ Hid (Chg (fun b => b = db) W1 wq)) (fun qv _ => N - (intOf qv).toNat)
  case atStart => exact ⟨0, by omega, rfl, HR1, Chg.refl _ _⟩
  case round =>
  clear HR1
  obtain ⟨j, hj, rfl, HRJ, HCJ⟩ := hrel
  by_cases hjN : j < N
  · have r1 := HRJ.out.cell hjN
    have z1 := HRJ.out.fz (j := j)
    have l1 := HRJ.out.lt
    go_wp2_with fail
    go_roundw
    case rel => exact ⟨j + 1, by omega, by go_num, by unfold Hid; rw [← mid_store (v := .int .i64 (-1)) rfl]; exact HRJ.out.set j _, HCJ.out.setCell (.inl rfl) _⟩
    case measure => simp [intOf]; omega
  have hje : N = j := by omega
  subst hje
  go_wp2_with fail
  have HR1 : Hid (RowV wr db N (fun x => .int .i64 (wt ms 0 x))) := HRJ.out.full
  have HCW1 : Hid (Chg (fun b => b = db) W1 wr) := HCJ
  clear HRJ HCJ
  go_loopw [5] (fun i wr => ∃ t : Nat, t ≤ M ∧ i = .int .i64 t ∧ Hid (RowV wr db N (fun x => .int .i64 (wt ms t x))) ∧ Hid (Chg (fun b => b = db) W1 wr)) (fun i _ => M - (intOf i).toNat)
  case atStart => exact ⟨0, by omega, rfl, HR1, HCW1⟩
  case round =>
    clear HR1 HCW1
    obtain ⟨t, ht, rfl, HR, HC⟩ := hrel
    have hbx : wr.heap[w.heap.size]? = some (.cells #[.int .i64 (N : Int), .bool true, .slice mq M nq, .slice qa qm qc] 32 (0, 0)) := by
      rw [HC.out.block _ (heap_lt HB1.out) (fun h => by have := HD.out; omega)]; exact HB1.out
    have hx2 : wr.cell? ⟨w.heap.size, 2, none⟩ = some (.slice mq M nq) := by rw [cell_of hbx]; rfl
    have hxl : w.heap.size < wr.heap.size := heap_lt hbx
    clear hbx
    by_cases hlt : t < M
    · obtain ⟨m, hm⟩ : ∃ m, ms[t]? = some m := ⟨ms[t]'(by rw [HM.out]; exact hlt), by simp⟩
      have hN0 : 0 < N := h0.out (by omega)
      obtain ⟨g, cap, b1, o1, c1, b2, o2, c2, b3, o3, c3, b4, o4, c4, a5, c5, a6, c6, he, mv0⟩ := H.out.view hN0 hm
      obtain ⟨rfl, -, rfl⟩ : mq = some ⟨g, 0, none⟩ ∧ M = ms.length ∧ nq = cap := by simpa using he
      have HMV : Hid (MV w N m g t b1 o1 c1 b2 o2 c2 b3 o3 c3 b4 o4 c4 a5 c5 a6 c6) := mv0
      have HCW : Hid (Chg No w wr) := HC1.out.over HC.out (fun b h => by have := HD.out; omega)
      have mv1 := mv0.chg HCW.out
      have d0 := mv1.d0
      have d1 := mv1.d1
      have d2 := mv1.d2
      have d3 := mv1.d3
      have d4 := mv1.d4
      have d5 := mv1.d5
      have d6 := mv1.d6
      have d7 := mv1.d7
      have d8 := mv1.d8
      have d9 := mv1.d9
      have hgl := cell_lt d0
      have Hm : Hid (ms[t]? = some m) := hm
      clear he mv0 mv1 hm
      go_wp2_with fail
      have hmb : (wr.alloc (.cells #[.int .i64 m.p, .int .i64 m.kd, .int .i64 m.a, .bool true, .slice (some ⟨b1, o1, none⟩) N c1, .slice (some ⟨b2, o2, none⟩) N c2, .slice (some ⟨b3, o3, none⟩) N c3, .slice (some ⟨b4, o4, none⟩) N c4, .slice a5 m.pipe.length c5, .slice a6 m.pipe2.length c6] 56)).heap[wr.heap.size]? = some (.cells #[.int .i64 m.p, .int .i64 m.kd, .int .i64 m.a, .bool true, .slice (some ⟨b1, o1, none⟩) N c1, .slice (some ⟨b2, o2, none⟩) N c2, .slice (some ⟨b3, o3, none⟩) N c3, .slice (some ⟨b4, o4, none⟩) N c4, .slice a5 m.pipe.length c5, .slice a6 m.pipe2.length c6] 56 (0, 0)) := heap_alloc_new' _ _
      have C2 : Chg No wr (wr.alloc (.cells #[.int .i64 m.p, .int .i64 m.kd, .int .i64 m.a, .bool true, .slice (some ⟨b1, o1, none⟩) N c1, .slice (some ⟨b2, o2, none⟩) N c2, .slice (some ⟨b3, o3, none⟩) N c3, .slice (some ⟨b4, o4, none⟩) N c4, .slice a5 m.pipe.length c5, .slice a6 m.pipe2.length c6] 56)) := (Chg.refl _ _).alloc _
      generalize wr.alloc (.cells #[.int .i64 m.p, .int .i64 m.kd, .int .i64 m.a, .bool true, .slice (some ⟨b1, o1, none⟩) N c1, .slice (some ⟨b2, o2, none⟩) N c2, .slice (some ⟨b3, o3, none⟩) N c3, .slice (some ⟨b4, o4, none⟩) N c4, .slice a5 m.pipe.length c5, .slice a6 m.pipe2.length c6] 56) = W2 at *
      have HMX : Hid (W2.heap[wr.heap.size]? = some (.cells #[.int .i64 m.p, .int .i64 m.kd, .int .i64 m.a, .bool true, .slice (some ⟨b1, o1, none⟩) N c1, .slice (some ⟨b2, o2, none⟩) N c2, .slice (some ⟨b3, o3, none⟩) N c3, .slice (some ⟨b4, o4, none⟩) N c4, .slice a5 m.pipe.length c5, .slice a6 m.pipe2.length c6] 56 (0, 0))) := hmb
      have HC2 : Hid (Chg No wr W2) := C2
      have HR2 : Hid (RowV W2 db N (mid (fun x => .int .i64 (wt ms (t + 1) x)) (fun x => .int .i64 (wt ms t x)) 0)) := by
        unfold Hid; rw [mid_zero]; exact HR.out.chg C2 (fun h => h)
      have HDM : Hid (db < wr.heap.size) := HR.out.lt
      clear hmb C2 d0 d1 d2 d3 d4 d5 d6 d7 d8 d9 hgl hx2 hxl
      generalize wr.heap.size = mb at *
      go_loopw [7] (fun qv wq => ∃ j : Nat, j ≤ N ∧ qv = .int .i64 j ∧ Hid (RowV wq db N (mid (fun x => .int .i64 (wt ms (t + 1) x)) (fun x => .int .i64 (wt ms t x)) j)) ∧ Hid (Chg (fun b => b = db) W2 wq)) (fun qv _ => N - (intOf qv).toNat)
      case atStart => exact ⟨0, by omega, rfl, HR2, Chg.refl _ _⟩
      case round =>
        clear HR2
        obtain ⟨j, hj, rfl, HRJ, HCJ⟩ := hrel
        have hbx : wr.heap[mb]? = some (.cells #[.int .i64 m.p, .int .i64 m.kd, .int .i64 m.a, .bool true, .slice (some ⟨b1, o1, none⟩) N c1, .slice (some ⟨b2, o2, none⟩) N c2, .slice (some ⟨b3, o3, none⟩) N c3, .slice (some ⟨b4, o4, none⟩) N c4, .slice a5 m.pipe.length c5, .slice a6 m.pipe2.length c6] 56 (0, 0)) := by
          rw [HCJ.out.block _ (heap_lt HMX.out) (fun h => by have := HDM.out; omega)]; exact HMX.out
        have e0 : wr.cell? ⟨mb, 0, none⟩ = some (.int .i64 m.p) := by rw [cell_of hbx]; rfl
        have e1 : wr.cell? ⟨mb, 1, none⟩ = some (.int .i64 m.kd) := by rw [cell_of hbx]; rfl
        have e2 : wr.cell? ⟨mb, 2, none⟩ = some (.int .i64 m.a) := by rw [cell_of hbx]; rfl
        have e4 : wr.cell? ⟨mb, 4, none⟩ = some (.slice (some ⟨b1, o1, none⟩) N c1) := by rw [cell_of hbx]; rfl
        have hml : mb < wr.heap.size := heap_lt hbx
        clear hbx
        by_cases hjN : j < N
        · have HCQ : Hid (Chg No w wr) := (HCW.out.trans HC2.out).over HCJ.out (fun b h => by have := HD.out; omega)
          have hhb : wr.heap[w.heap.size]? = some (.cells #[.int .i64 (N : Int), .bool true, .slice (some ⟨g, 0, none⟩) M nq, .slice qa qm qc] 32 (0, 0)) := by
            rw [((HC.out.trans (HC2.out.mono fun _ h => h.elim)).trans HCJ.out).block _ (heap_lt HB1.out) (fun h => by have := HD.out; omega)]; exact HB1.out
          have e9 : wr.cell? ⟨w.heap.size, 0, none⟩ = some (.int .i64 (N : Int)) := by rw [cell_of hhb]; rfl
          have l9 : w.heap.size < wr.heap.size := heap_lt hhb
          clear hhb
          have mv2 := HMV.out.chg HCQ.out
          have s1 := mv2.st j hjN
          have r1 := HRJ.out.cell hjN
          rw [mid_at] at r1
          have z1 := HRJ.out.fz (j := j)
          have l1 := HRJ.out.lt
          have l2 := cell_lt s1
          have n0 : mb ≠ db := by have := HDM.out; omega
          have n1 : b1 ≠ db := by have := cell_lt (HMV.out.st j hjN); have := HD.out; omega
          have n2 : w.heap.size ≠ db := by have := HD.out; omega
          obtain ⟨k1, k2⟩ := HK.out t (by rw [HM.out]; omega) j hjN
          obtain ⟨k3, k4⟩ := HK.out (t + 1) (by rw [HM.out]; omega) j hjN
          have HS : Hid (wt ms (t + 1) j = wst m (wt ms t j) j) := wt_succ Hm.out j
          have H4 : Hid (wt ms (t + 1) j < (N : Int)) := k4
          have Hz : Hid (∃ z, z = wt ms t j) := ⟨_, rfl⟩
          obtain ⟨z, hz⟩ := Hz.out
          rw [← hz] at r1 k1 k2
          have HZ : Hid (wt ms t j = z) := hz.symm
          clear k3 k4 hz Hz mv2
          obtain ⟨x1, hx1⟩ : ∃ x, ((j : Int) == m.p) = x := ⟨_, rfl⟩
          obtain ⟨x2, hx2⟩ : ∃ x, (m.kd == 7) = x := ⟨_, rfl⟩
          obtain ⟨x3, hx3⟩ : ∃ x, (m.a == (j : Int)) = x := ⟨_, rfl⟩
          cases x1
          · cases x2
            · have HIF : Hid (∀ z y : Int, (if (j : Int) = m.p ∨ (m.kd = 7 ∧ m.a = (j : Int)) then y else z) = z) := fun z y => if_neg (by simp at hx1 hx2; omega)
              by_cases hz : 0 ≤ z
              · have HW : Hid (wt ms (t + 1) j = z + 1) := by unfold Hid; rw [HS.out, HZ.out, wst, HIF.out]; simp [hz]
                have h4 := H4.out
                rw [HW.out] at h4
                go_wp2_with fail
                go_region
                go_wp2_with fail
                go_roundw
                case rel => exact ⟨j + 1, by omega, by go_num, by unfold Hid; rw [← mid_store (v := .int .i64 (z + 1)) (by rw [HW.out])]; exact HRJ.out.set j _, (HCJ.out.setCell (.inl rfl) _).drew⟩
                case measure => simp [intOf]; omega
              · have hz1 : z = -1 := by omega
                subst hz1
                clear hz
                by_cases hst : m.st j = 0
                · have HST : Hid (m.st j = 0) := hst
                  rw [hst] at s1
                  clear hst
                  have HW : Hid (wt ms (t + 1) j = 0) := by unfold Hid; rw [HS.out, HZ.out, wst, HIF.out]; simp [HST.out]
                  have h4 := H4.out
                  rw [HW.out] at h4
                  go_wp2_with fail
                  go_region
                  go_wp2_with fail
                  go_roundw
                  case rel => exact ⟨j + 1, by omega, by go_num, by unfold Hid; rw [← mid_store (v := .int .i64 0) (by rw [HW.out])]; exact HRJ.out.set j _, (HCJ.out.setCell (.inl rfl) _).drew⟩
                  case measure => simp [intOf]; omega
                · have hs' : (m.st j == 0) = false := by simp [hst]
                  have HST : Hid (¬ m.st j = 0) := hst
                  clear hst
                  have HW : Hid (wt ms (t + 1) j = -1) := by unfold Hid; rw [HS.out, HZ.out, wst, HIF.out]; simp [HST.out]
                  have h4 := H4.out
                  rw [HW.out] at h4
                  go_wp2_with fail
                  go_region
                  go_wp2_with fail
                  go_roundw
                  case rel => exact ⟨j + 1, by omega, by go_num, by unfold Hid; rw [← mid_keep (by rw [HW.out, HZ.out])]; exact HRJ.out, HCJ.out.drew⟩
                  case measure => simp [intOf]; omega
            · cases x3
              · have HIF : Hid (∀ z y : Int, (if (j : Int) = m.p ∨ (m.kd = 7 ∧ m.a = (j : Int)) then y else z) = z) := fun z y => if_neg (by simp at hx1 hx3; omega)
                by_cases hz : 0 ≤ z
                · have HW : Hid (wt ms (t + 1) j = z + 1) := by unfold Hid; rw [HS.out, HZ.out, wst, HIF.out]; simp [hz]
                  have h4 := H4.out
                  rw [HW.out] at h4
                  go_wp2_with fail
                  go_region
                  go_wp2_with fail
                  go_roundw
                  case rel => exact ⟨j + 1, by omega, by go_num, by unfold Hid; rw [← mid_store (v := .int .i64 (z + 1)) (by rw [HW.out])]; exact HRJ.out.set j _, (HCJ.out.setCell (.inl rfl) _).drew⟩
                  case measure => simp [intOf]; omega
                · have hz1 : z = -1 := by omega
                  subst hz1
                  clear hz
                  by_cases hst : m.st j = 0
                  · have HST : Hid (m.st j = 0) := hst
                    rw [hst] at s1
                    clear hst
                    have HW : Hid (wt ms (t + 1) j = 0) := by unfold Hid; rw [HS.out, HZ.out, wst, HIF.out]; simp [HST.out]
                    have h4 := H4.out
                    rw [HW.out] at h4
                    go_wp2_with fail
                    go_region
                    go_wp2_with fail
                    go_roundw
                    case rel => exact ⟨j + 1, by omega, by go_num, by unfold Hid; rw [← mid_store (v := .int .i64 0) (by rw [HW.out])]; exact HRJ.out.set j _, (HCJ.out.setCell (.inl rfl) _).drew⟩
                    case measure => simp [intOf]; omega
                  · have hs' : (m.st j == 0) = false := by simp [hst]
                    have HST : Hid (¬ m.st j = 0) := hst
                    clear hst
                    have HW : Hid (wt ms (t + 1) j = -1) := by unfold Hid; rw [HS.out, HZ.out, wst, HIF.out]; simp [HST.out]
                    have h4 := H4.out
                    rw [HW.out] at h4
                    go_wp2_with fail
                    go_region
                    go_wp2_with fail
                    go_roundw
                    case rel => exact ⟨j + 1, by omega, by go_num, by unfold Hid; rw [← mid_keep (by rw [HW.out, HZ.out])]; exact HRJ.out, HCJ.out.drew⟩
                    case measure => simp [intOf]; omega
              · have HIF : Hid (∀ z : Int, (if (j : Int) = m.p ∨ (m.kd = 7 ∧ m.a = (j : Int)) then (if m.st j = 0 then (0 : Int) else -1) else z) = (if m.st j = 0 then (0 : Int) else -1)) := fun z => if_pos (.inr ⟨by simpa using hx2, by simpa using hx3⟩)
                by_cases hst : m.st j = 0
                · have HST : Hid (m.st j = 0) := hst
                  rw [hst] at s1
                  clear hst
                  have HW : Hid (wt ms (t + 1) j = 0) := by unfold Hid; rw [HS.out, HZ.out, wst, HIF.out]; simp [HST.out]
                  have h4 := H4.out
                  rw [HW.out] at h4
                  go_wp2_with fail
                  go_region
                  go_wp2_with fail
                  go_roundw
                  case rel => exact ⟨j + 1, by omega, by go_num, by unfold Hid; rw [← mid_store (v := .int .i64 0) (by rw [HW.out])]; exact updV_twice _ _ _ _ ▸ (HRJ.out.set j (.int .i64 (-1))).set j _, ((HCJ.out.setCell (.inl rfl) _).setCell (.inl rfl) _).drew⟩
                  case measure => simp [intOf]; omega
                · have hs' : (m.st j == 0) = false := by simp [hst]
                  have HST : Hid (¬ m.st j = 0) := hst
                  clear hst
                  have HW : Hid (wt ms (t + 1) j = -1) := by unfold Hid; rw [HS.out, HZ.out, wst, HIF.out]; simp [HST.out]
                  have h4 := H4.out
                  rw [HW.out] at h4
                  go_wp2_with fail
                  go_region
                  go_wp2_with fail
                  go_roundw
                  case rel => exact ⟨j + 1, by omega, by go_num, by unfold Hid; rw [← mid_store (v := .int .i64 (-1)) (by rw [HW.out])]; exact HRJ.out.set j _, (HCJ.out.setCell (.inl rfl) _).drew⟩
                  case measure => simp [intOf]; omega
          · have HIF : Hid (∀ z : Int, (if (j : Int) = m.p ∨ (m.kd = 7 ∧ m.a = (j : Int)) then (if m.st j = 0 then (0 : Int) else -1) else z) = (if m.st j = 0 then (0 : Int) else -1)) := fun z => if_pos (.inl (by simpa using hx1))
            by_cases hst : m.st j = 0
            · have HST : Hid (m.st j = 0) := hst
              rw [hst] at s1
              clear hst
              have HW : Hid (wt ms (t + 1) j = 0) := by unfold Hid; rw [HS.out, HZ.out, wst, HIF.out]; simp [HST.out]
              have h4 := H4.out
              rw [HW.out] at h4
              go_wp2_with fail
              go_region
              go_wp2_with fail
              go_roundw
              case rel => exact ⟨j + 1, by omega, by go_num, by unfold Hid; rw [← mid_store (v := .int .i64 0) (by rw [HW.out])]; exact updV_twice _ _ _ _ ▸ (HRJ.out.set j (.int .i64 (-1))).set j _, ((HCJ.out.setCell (.inl rfl) _).setCell (.inl rfl) _).drew⟩
              case measure => simp [intOf]; omega
            · have hs' : (m.st j == 0) = false := by simp [hst]
              have HST : Hid (¬ m.st j = 0) := hst
              clear hst
              have HW : Hid (wt ms (t + 1) j = -1) := by unfold Hid; rw [HS.out, HZ.out, wst, HIF.out]; simp [HST.out]
              have h4 := H4.out
              rw [HW.out] at h4
              go_wp2_with fail
              go_region
              go_wp2_with fail
              go_roundw
              case rel => exact ⟨j + 1, by omega, by go_num, by unfold Hid; rw [← mid_store (v := .int .i64 (-1)) (by rw [HW.out])]; exact HRJ.out.set j _, (HCJ.out.setCell (.inl rfl) _).drew⟩
              case measure => simp [intOf]; omega
        · have hje : N = j := by omega
          subst hje
          go_wp2_with fail
          go_roundw
          case rel => exact ⟨t + 1, by omega, by go_num, HRJ.out.full, (HC.out.trans (HC2.out.mono fun _ h => h.elim)).trans HCJ.out⟩
          case measure => simp [intOf]; omega
    · have hte : M = t := by omega
      subst hte
      go_wp2_with fail
      go_ret
      exact ⟨rfl, HC1.out.over HC.out (fun b h => by have := HD.out; omega)⟩
end Go.Proofs.Ygdapg
