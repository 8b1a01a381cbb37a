/-
  equals, fairPrio, WALKED.
-/
import Derived.Test.YgdapgF0
import Derived.BigQuiet
set_option linter.unusedSimpArgs false
set_option linter.unusedVariables false
namespace Go.Proofs.Ygdapg
open Go.RowKit

set_option maxRecDepth 100000 in
set_option maxHeartbeats 1000000 in
theorem equals_any (w : World) (N : Nat) (hN : N ≤ 8) (b o c : Nat) (pr : Nat → Int) (HP : Hid (∀ j, j < N → w.cell? ⟨b, o + j, none⟩ = some (.int .i64 (pr j)))) (q : Nat) (hq : q < N) :
    Calls Yapd.prog 53 #[.slice (some ⟨b, o, none⟩) N c, .int .i64 (q : Int)] w fun e w' => e = .returned (.int .i64 (cntE pr (pr q) N : Int)) ∧ Chg No w w' := by
  go_enter Yapd.func53, Yapd.ntmps53
  go_wp2_with fail
  go_loopw [5, 6] (fun n i wq => ∃ j : Nat, j ≤ N ∧ i = .int .i64 j ∧ n = .int .i64 (cntE pr (pr q) j : Int) ∧ Hid (Chg No w wq)) (fun _ i _ => N - (intOf i).toNat)
  case atStart => exact ⟨0, by omega, rfl, rfl, Chg.refl _ _⟩
  case round =>
    obtain ⟨j, hj, rfl, rfl, HC⟩ := hrel
    by_cases hjN : j < N
    · have r0 : wr.cell? ⟨b, o + q, none⟩ = some (.int .i64 (pr q)) := by rw [HC.out.cell (p := ⟨b, o + q, none⟩) (cell_lt (HP.out q hq)) (fun h => h)]; exact HP.out q hq
      have r1 : wr.cell? ⟨b, o + j, none⟩ = some (.int .i64 (pr j)) := by rw [HC.out.cell (p := ⟨b, o + j, none⟩) (cell_lt (HP.out j hjN)) (fun h => h)]; exact HP.out j hjN
      have hcj := cntE_le pr (pr q) j
      have HS : Hid (cntE pr (pr q) (j + 1) = cntE pr (pr q) j + (if pr j = pr q then 1 else 0)) := rfl
      generalize cntE pr (pr q) j = C at *
      by_cases he : pr j = pr q
      · have he' : (pr j == pr q) = true := by simpa using he
        rw [if_pos he] at HS
        clear he
        go_wp2_with fail
        go_quiet (fail)
        go_wp2_with fail
        go_roundw
        case rel => exact ⟨j + 1, by omega, by go_num, by rw [HS.out]; go_num, HC.out.drewN _⟩
        case measure => simp [intOf]; omega
      · have he' : (pr j == pr q) = false := by simpa using he
        rw [if_neg he] at HS
        clear he
        go_wp2_with fail
        go_quiet (fail)
        go_wp2_with fail
        go_roundw
        case rel => exact ⟨j + 1, by omega, by go_num, by rw [HS.out]; rfl, HC.out.drewN _⟩
        case measure => simp [intOf]; omega
    · have hje : N = j := by omega
      subst hje
      go_wp2_with fail
      go_ret
      exact ⟨rfl, HC.out⟩

theorem updV_two (F : Nat → Value) (j : Nat) (a b : Value) : updV (updV F j a) j b = updV F j b := by
  funext x; unfold updV; split <;> rfl

set_option maxRecDepth 100000 in
set_option maxHeartbeats 8000000 in
theorem fairPrio_any (w : World) (B N : Nat) (V mv : Value) (X : Nat → Prop) (ms : List Mo) (cf : Nat → List Value) (H : Hid (HistAt B w V X N mv ms cf)) (hN : N ≤ 8) (M : Nat) (HM : Hid (ms.length = M)) (hM : M ≤ 256) (pv : Value) (pr : Nat → Int) (B2 : Nat) (HPV : Hid (IntsAt B2 w pv N pr)) (HK : Hid (FairPrioOk N pr ms)) (h0 : Hid (0 < M → 0 < N)) (HV : Hid (∃ a m c, V = .slice a m c)) :
    Calls Yapd.prog 33 #[.agg #[.int .i64 (N : Int), .bool true, mv, V], pv] w fun e w' => e = .returned (.bool true) ∧ Chg No w w' := by
  obtain ⟨mq, nq, rfl⟩ : ∃ mq nq, mv = .slice mq M nq := by rw [← HM.out]; exact H.out.shape
  obtain ⟨qa, qm, qc, rfl⟩ := HV.out
  obtain ⟨a2, c2, rfl, hpv⟩ := HPV.out
  have HP : Hid (0 < N → ∃ b o, a2 = some ⟨b, o, none⟩ ∧ b < B2 ∧ ∀ i, i < N → w.cell? ⟨b, o + i, none⟩ = some (.int .i64 (pr i))) := hpv
  clear hpv
  go_enter Yapd.func33, Yapd.ntmps33
  go_wp2_with fail
  have hb0 : (w.alloc (.cells #[.int .i64 (N : Int), .bool true, .slice mq M nq, .slice qa qm qc] 32)).heap[w.heap.size]? = some (.cells #[.int .i64 (N : Int), .bool true, .slice mq M nq, .slice qa qm qc] 32 (0, 0)) := heap_alloc_new' _ _
  have C0 : Chg No w (w.alloc (.cells #[.int .i64 (N : Int), .bool true, .slice mq M nq, .slice qa qm qc] 32)) := (Chg.refl _ _).alloc _
  generalize w.alloc (.cells #[.int .i64 (N : Int), .bool true, .slice mq M nq, .slice qa qm qc] 32) = W0 at *
  rw [make_ints W0 N N (Nat.le_refl _) (by omega)]
  simp only [Result.andThen_ok]
  go_wp2_with fail
  have R1 : RowV (W0.alloc (.cells (arr N fun _ => 0) 3)) W0.heap.size N (mid (fun _ => .int .i64 (-1)) (fun _ => .int .i64 0) 0) := by
    rw [mid_zero]; exact RowV.ints W0 N _
  have C1 : Chg No W0 (W0.alloc (.cells (arr N fun _ => 0) 3)) := (Chg.refl _ _).alloc _
  have hb1 : (W0.alloc (.cells (arr N fun _ => 0) 3)).heap[w.heap.size]? = some (.cells #[.int .i64 (N : Int), .bool true, .slice mq M nq, .slice qa qm qc] 32 (0, 0)) := by
    rw [C1.block _ (heap_lt hb0) (fun h => h)]; exact hb0
  have HD : Hid (w.heap.size < W0.heap.size) := heap_lt hb0
  generalize W0.alloc (.cells (arr N fun _ => 0) 3) = W1 at *
  have HB1 : Hid (W1.heap[w.heap.size]? = some (.cells #[.int .i64 (N : Int), .bool true, .slice mq M nq, .slice qa qm qc] 32 (0, 0))) := hb1
  have HC1 : Hid (Chg No w W1) := C0.trans C1
  have HR1 : Hid (RowV W1 W0.heap.size N (mid (fun _ => .int .i64 (-1)) (fun _ => .int .i64 0) 0)) := R1
  clear R1 C1 C0 hb0 hb1
  generalize W0.heap.size = db at *
  go_loopw [6] (fun qv wq => ∃ j : Nat, j ≤ N ∧ qv = .int .i64 j ∧ Hid (RowV wq db N (mid (fun _ => .int .i64 (-1)) (fun _ => .int .i64 0) j)) ∧ Hid (Chg (fun b => b = db) W1 wq)) (fun qv _ => N - (intOf qv).toNat)
  case atStart => exact ⟨0, by omega, rfl, HR1, Chg.refl _ _⟩
  case round =>
  clear HR1
  obtain ⟨j, hj, rfl, HRJ, HCJ⟩ := hrel
  by_cases hjN : j < N
  · have r1 := HRJ.out.cell hjN
    have z1 := HRJ.out.fz (j := j)
    have l1 := HRJ.out.lt
    go_wp2_with fail
    go_roundw
    case rel => exact ⟨j + 1, by omega, by go_num, by unfold Hid; rw [← mid_store (v := .int .i64 (-1)) rfl]; exact HRJ.out.set j _, HCJ.out.setCell (.inl rfl) _⟩
    case measure => simp [intOf]; omega
  have hje : N = j := by omega
  subst hje
  go_wp2_with fail
  have HR1 : Hid (RowV wr db N (fun x => .int .i64 (wp ms pr 0 x))) := HRJ.out.full
  have HCW1 : Hid (Chg (fun b => b = db) W1 wr) := HCJ
  clear HRJ HCJ
  go_loopw [7] (fun i wr => ∃ t : Nat, t ≤ M ∧ i = .int .i64 t ∧ Hid (RowV wr db N (fun x => .int .i64 (wp ms pr t x))) ∧ Hid (Chg (fun b => b = db) W1 wr)) (fun i _ => M - (intOf i).toNat)
  case atStart => exact ⟨0, by omega, rfl, HR1, HCW1⟩
  case round =>
    clear HR1 HCW1
    obtain ⟨t, ht, rfl, HR, HC⟩ := hrel
    have hbx : wr.heap[w.heap.size]? = some (.cells #[.int .i64 (N : Int), .bool true, .slice mq M nq, .slice qa qm qc] 32 (0, 0)) := by
      rw [HC.out.block _ (heap_lt HB1.out) (fun h => by have := HD.out; omega)]; exact HB1.out
    have hx2 : wr.cell? ⟨w.heap.size, 2, none⟩ = some (.slice mq M nq) := by rw [cell_of hbx]; rfl
    have hxl : w.heap.size < wr.heap.size := heap_lt hbx
    clear hbx
    by_cases hlt : t < M
    · obtain ⟨m, hm⟩ : ∃ m, ms[t]? = some m := ⟨ms[t]'(by rw [HM.out]; exact hlt), by simp⟩
      have hN0 : 0 < N := h0.out (by omega)
      obtain ⟨g, cap, b1, o1, c1, b2, o2, c2', b3, o3, c3, b4, o4, c4, a5, c5, a6, c6, he, mv0⟩ := H.out.view hN0 hm
      obtain ⟨rfl, -, rfl⟩ : mq = some ⟨g, 0, none⟩ ∧ M = ms.length ∧ nq = cap := by simpa using he
      have HMV : Hid (MV w N m g t b1 o1 c1 b2 o2 c2' b3 o3 c3 b4 o4 c4 a5 c5 a6 c6) := mv0
      obtain ⟨pb, po, rfl, -, hpc⟩ := HP.out hN0
      have HPW : Hid (∀ i, i < N → w.cell? ⟨pb, po + i, none⟩ = some (.int .i64 (pr i))) := hpc
      obtain ⟨p, hp, hpp⟩ := HK.out.2 t m hm
      have HPP : Hid (m.p = (p : Int)) := hpp
      have HCW : Hid (Chg No w wr) := HC1.out.over HC.out (fun b h => by have := HD.out; omega)
      have mv1 := mv0.chg HCW.out
      have d0 := mv1.d0
      rw [hpp] at d0
      have d1 := mv1.d1
      have d2 := mv1.d2
      have d3 := mv1.d3
      have d4 := mv1.d4
      have d5 := mv1.d5
      have d6 := mv1.d6
      have d7 := mv1.d7
      have d8 := mv1.d8
      have d9 := mv1.d9
      have hgl := cell_lt d0
      have Hm : Hid (ms[t]? = some m) := hm
      clear he mv0 mv1 hm hpc hpp
      go_wp2_with fail
      have hmb : (wr.alloc (.cells #[.int .i64 (p : Int), .int .i64 m.kd, .int .i64 m.a, .bool true, .slice (some ⟨b1, o1, none⟩) N c1, .slice (some ⟨b2, o2, none⟩) N c2', .slice (some ⟨b3, o3, none⟩) N c3, .slice (some ⟨b4, o4, none⟩) N c4, .slice a5 m.pipe.length c5, .slice a6 m.pipe2.length c6] 56)).heap[wr.heap.size]? = some (.cells #[.int .i64 (p : Int), .int .i64 m.kd, .int .i64 m.a, .bool true, .slice (some ⟨b1, o1, none⟩) N c1, .slice (some ⟨b2, o2, none⟩) N c2', .slice (some ⟨b3, o3, none⟩) N c3, .slice (some ⟨b4, o4, none⟩) N c4, .slice a5 m.pipe.length c5, .slice a6 m.pipe2.length c6] 56 (0, 0)) := heap_alloc_new' _ _
      have C2 : Chg No wr (wr.alloc (.cells #[.int .i64 (p : Int), .int .i64 m.kd, .int .i64 m.a, .bool true, .slice (some ⟨b1, o1, none⟩) N c1, .slice (some ⟨b2, o2, none⟩) N c2', .slice (some ⟨b3, o3, none⟩) N c3, .slice (some ⟨b4, o4, none⟩) N c4, .slice a5 m.pipe.length c5, .slice a6 m.pipe2.length c6] 56)) := (Chg.refl _ _).alloc _
      generalize wr.alloc (.cells #[.int .i64 (p : Int), .int .i64 m.kd, .int .i64 m.a, .bool true, .slice (some ⟨b1, o1, none⟩) N c1, .slice (some ⟨b2, o2, none⟩) N c2', .slice (some ⟨b3, o3, none⟩) N c3, .slice (some ⟨b4, o4, none⟩) N c4, .slice a5 m.pipe.length c5, .slice a6 m.pipe2.length c6] 56) = W2 at *
      have HMX : Hid (W2.heap[wr.heap.size]? = some (.cells #[.int .i64 (p : Int), .int .i64 m.kd, .int .i64 m.a, .bool true, .slice (some ⟨b1, o1, none⟩) N c1, .slice (some ⟨b2, o2, none⟩) N c2', .slice (some ⟨b3, o3, none⟩) N c3, .slice (some ⟨b4, o4, none⟩) N c4, .slice a5 m.pipe.length c5, .slice a6 m.pipe2.length c6] 56 (0, 0))) := hmb
      have HC2 : Hid (Chg No wr W2) := C2
      have HR2 : Hid (RowV W2 db N (mid (fun x => .int .i64 (wp ms pr (t + 1) x)) (fun x => .int .i64 (wp ms pr t x)) 0)) := by
        unfold Hid; rw [mid_zero]; exact HR.out.chg C2 (fun h => h)
      have HDM : Hid (db < wr.heap.size) := HR.out.lt
      clear hmb C2 d0 d1 d2 d3 d4 d5 d6 d7 d8 d9 hgl hx2 hxl
      generalize wr.heap.size = mb at *
      have hd1 : decide (N ≤ p) = false := by simp; omega
      have hd2 : decide ((p : Int) < 0) = false := by simp
      simp only [hd1, hd2, Bool.or_false]
      clear hd1 hd2
      go_loopw [9] (fun qv wq => ∃ j : Nat, j ≤ N ∧ qv = .int .i64 j ∧ Hid (RowV wq db N (mid (fun x => .int .i64 (wp ms pr (t + 1) x)) (fun x => .int .i64 (wp ms pr t x)) j)) ∧ Hid (Chg (fun b => b = db) W2 wq)) (fun qv _ => N - (intOf qv).toNat)
      case atStart => exact ⟨0, by omega, rfl, HR2, Chg.refl _ _⟩
      case round =>
        clear HR2
        obtain ⟨j, hj, rfl, HRJ, HCJ⟩ := hrel
        have hbx : wr.heap[mb]? = some (.cells #[.int .i64 (p : Int), .int .i64 m.kd, .int .i64 m.a, .bool true, .slice (some ⟨b1, o1, none⟩) N c1, .slice (some ⟨b2, o2, none⟩) N c2', .slice (some ⟨b3, o3, none⟩) N c3, .slice (some ⟨b4, o4, none⟩) N c4, .slice a5 m.pipe.length c5, .slice a6 m.pipe2.length c6] 56 (0, 0)) := by
          rw [HCJ.out.block _ (heap_lt HMX.out) (fun h => by have := HDM.out; omega)]; exact HMX.out
        have e0 : wr.cell? ⟨mb, 0, none⟩ = some (.int .i64 (p : Int)) := by rw [cell_of hbx]; rfl
        have e1 : wr.cell? ⟨mb, 1, none⟩ = some (.int .i64 m.kd) := by rw [cell_of hbx]; rfl
        have e2 : wr.cell? ⟨mb, 2, none⟩ = some (.int .i64 m.a) := by rw [cell_of hbx]; rfl
        have e4 : wr.cell? ⟨mb, 4, none⟩ = some (.slice (some ⟨b1, o1, none⟩) N c1) := by rw [cell_of hbx]; rfl
        have hml : mb < wr.heap.size := heap_lt hbx
        clear hbx
        by_cases hjN : j < N
        · have HCQ : Hid (Chg No w wr) := (HCW.out.trans HC2.out).over HCJ.out (fun b h => by have := HD.out; omega)
          have mv2 := HMV.out.chg HCQ.out
          have s1 := mv2.st j hjN
          have v1 : wr.cell? ⟨pb, po + j, none⟩ = some (.int .i64 (pr j)) := by rw [HCQ.out.cell (p := ⟨pb, po + j, none⟩) (cell_lt (HPW.out j hjN)) (fun h => h)]; exact HPW.out j hjN
          have v2 : wr.cell? ⟨pb, po + p, none⟩ = some (.int .i64 (pr p)) := by rw [HCQ.out.cell (p := ⟨pb, po + p, none⟩) (cell_lt (HPW.out p hp)) (fun h => h)]; exact HPW.out p hp
          have r1 := HRJ.out.cell hjN
          rw [mid_at] at r1
          have z1 := HRJ.out.fz (j := j)
          have l1 := HRJ.out.lt
          have l2 := cell_lt s1
          have l3 := cell_lt v1
          have n0 : mb ≠ db := by have := HDM.out; omega
          have n1 : b1 ≠ db := by have := cell_lt (HMV.out.st j hjN); have := HD.out; omega
          have n2 : pb ≠ db := by have := cell_lt (HPW.out j hjN); have := HD.out; omega
          obtain ⟨k1, k2⟩ := HK.out.1 t (by rw [HM.out]; omega) j hjN
          obtain ⟨k3, k4⟩ := HK.out.1 (t + 1) (by rw [HM.out]; omega) j hjN
          have k5 := cntE_le pr (pr j) N
          have HS : Hid (wp ms pr (t + 1) j = wsp m pr (wp ms pr t j) j) := wp_succ Hm.out j
          have H4 : Hid (wp ms pr (t + 1) j < (cntE pr (pr j) N : Int)) := k4
          have Hz : Hid (∃ z, z = wp ms pr t j) := ⟨_, rfl⟩
          obtain ⟨z, hz⟩ := Hz.out
          rw [← hz] at r1 k1 k2
          have HZ : Hid (wp ms pr t j = z) := hz.symm
          clear k3 k4 hz Hz mv2
          obtain ⟨x1, hx1⟩ : ∃ x, ((j : Int) == (p : Int)) = x := ⟨_, rfl⟩
          obtain ⟨x2, hx2⟩ : ∃ x, (m.kd == 7) = x := ⟨_, rfl⟩
          obtain ⟨x3, hx3⟩ : ∃ x, (m.a == (j : Int)) = x := ⟨_, rfl⟩
          have hx1K := trivial
          cases x1
          · cases x2
            · have HRC : Hid (¬ ((j : Int) = m.p ∨ (m.kd = 7 ∧ m.a = (j : Int)))) := by unfold Hid; rw [HPP.out]; simp at hx1 hx2; omega
              clear hx1K
              by_cases hz : 0 ≤ z
              · by_cases hq : pr j = pr p
                · have hq' : (pr j == pr p) = true := by simpa using hq
                  have HQ : Hid (pr j = pr m.p.toNat) := by unfold Hid; rw [HPP.out]; simpa using hq
                  clear hq
                  have HW : Hid (wp ms pr (t + 1) j = z + 1) := by unfold Hid; rw [HS.out, HZ.out, wsp]; rw [if_neg HRC.out, if_pos hz, if_pos HQ.out]
                  have h4 := H4.out
                  rw [HW.out] at h4
                  go_wp2_with fail
                  go_quiet (fail)
                  go_wp2_with fail
                  have R5 : RowV ((wr.drewN nq).setCell ⟨db, j, none⟩ (.int .i64 (z + 1))) db N (mid (fun x => .int .i64 (wp ms pr (t + 1) x)) (fun x => .int .i64 (wp ms pr t x)) (j + 1)) := by rw [← mid_store (v := .int .i64 (z + 1)) (by rw [HW.out])]; exact RowV.set (w := wr.drewN nq) HRJ.out j _
                  have C5 : Chg (fun b => b = db) W2 ((wr.drewN nq).setCell ⟨db, j, none⟩ (.int .i64 (z + 1))) := ((HCJ.out.drewN _).setCell (.inl rfl) _)
                  generalize ((wr.drewN nq).setCell ⟨db, j, none⟩ (.int .i64 (z + 1))) = W5 at *
                  have HR5 : Hid (RowV W5 db N (mid (fun x => .int .i64 (wp ms pr (t + 1) x)) (fun x => .int .i64 (wp ms pr t x)) (j + 1))) := R5
                  have HC5 : Hid (Chg (fun b => b = db) W2 W5) := C5
                  clear R5 C5
                  have HS9 : W5.drew.cell? ⟨db, 0 + j, none⟩ = some (.int .i64 (z + 1)) := by
                    rw [Nat.zero_add]
                    have := HR5.out.cell hjN
                    rw [show mid (fun x => Value.int .i64 (wp ms pr (t + 1) x)) (fun x => Value.int .i64 (wp ms pr t x)) (j + 1) j = .int .i64 (wp ms pr (t + 1) j) by simp [mid], HW.out] at this
                    exact this
                  have HPC : Hid (∀ i, i < N → W5.drew.cell? ⟨pb, po + i, none⟩ = some (.int .i64 (pr i))) := fun i hi => by
                    have hcw : Chg No w W5 := (HCW.out.trans HC2.out).over HC5.out (fun b h => by have := HD.out; omega)
                    have := hcw.cell (p := ⟨pb, po + i, none⟩) (cell_lt (HPW.out i hi)) (fun h => h)
                    exact this.trans (HPW.out i hi)
                  have hge : decide ((cntE pr (pr j) N : Int) ≤ z + 1) = false := by simp; omega
                  refine wp_region_S (fun W => W.cell? ⟨db, 0 + j, none⟩ = some (.int .i64 (z + 1))) [0, 1, 2, 3, 4, 5, 7] (by kernel_rfl) ?_
                  refine wpAnyS_take 0 (.slice (some ⟨db, 0, none⟩) N N) rfl (by kernel_rfl) (by kernel_rfl) (by kernel_rfl) (by kernel_rfl) (fun _ _ _ h => h) (by rfl) HS9 (fun _ _ => rfl) ?_
                  simp only [Act.put, List.setIfInBounds_toArray, List.set_cons_zero, List.set_cons_succ]
                  refine wpAnyS_take 1 (.int .i64 (j : Int)) rfl (by kernel_rfl) (by kernel_rfl) (by kernel_rfl) (by kernel_rfl) (fun _ _ _ h => h) (by rfl) HS9 (fun _ _ => rfl) ?_
                  simp only [Act.put, List.setIfInBounds_toArray, List.set_cons_zero, List.set_cons_succ]
                  refine wpAnyS_take 2 (.pointer (some ⟨db, 0 + j, none⟩)) rfl (by kernel_rfl) (by kernel_rfl) (by kernel_rfl) (by kernel_rfl) (fun _ _ _ h => h) (by rfl) HS9 (fun _ _ => run_index23 rfl rfl rfl hjN) ?_
                  simp only [Act.put, List.setIfInBounds_toArray, List.set_cons_zero, List.set_cons_succ]
                  refine wpAnyS_take 3 (.int .i64 (z + 1)) rfl (by kernel_rfl) (by kernel_rfl) (by kernel_rfl) (by kernel_rfl) (fun _ _ _ h => h) (by rfl) HS9 (fun _ h => run_load3 rfl rfl h) ?_
                  simp only [Act.put, List.setIfInBounds_toArray, List.set_cons_zero, List.set_cons_succ]
                  refine wpAnyS_take 4 (.slice (some ⟨pb, po, none⟩) N c2) rfl (by kernel_rfl) (by kernel_rfl) (by kernel_rfl) (by kernel_rfl) (fun _ _ _ h => h) (by rfl) HS9 (fun _ _ => rfl) ?_
                  simp only [Act.put, List.setIfInBounds_toArray, List.set_cons_zero, List.set_cons_succ]
                  refine wpAnyS_take 5 (.int .i64 (j : Int)) rfl (by kernel_rfl) (by kernel_rfl) (by kernel_rfl) (by kernel_rfl) (fun _ _ _ h => h) (by rfl) HS9 (fun _ _ => rfl) ?_
                  simp only [Act.put, List.setIfInBounds_toArray, List.set_cons_zero, List.set_cons_succ]
                  refine wpAnyS_one 6 rfl (by kernel_rfl) (by rfl) ?_
                  refine wp_callF 53 Yapd.func53 rfl (by kernel_rfl) [.slice (some ⟨pb, po, none⟩) N c2, .int .i64 (j : Int)] rfl rfl (fun v w' => v = .int .i64 (cntE pr (pr j) N : Int) ∧ Chg No W5.drew w')
                    ((equals_any W5.drew N hN pb po c2 pr HPC j hjN).mono fun e w' h => ⟨_, h.1, rfl, h.2⟩) ?_
                  rintro v W6 ⟨rfl, C6⟩
                  have HS10 : W6.cell? ⟨db, 0 + j, none⟩ = some (.int .i64 (z + 1)) := by
                    rw [C6.cell (p := ⟨db, 0 + j, none⟩) (cell_lt HS9) (fun h => h)]; exact HS9
                  have HR6 : Hid (RowV W6 db N (mid (fun x => .int .i64 (wp ms pr (t + 1) x)) (fun x => .int .i64 (wp ms pr t x)) (j + 1))) := RowV.chg (w := W5.drew) HR5.out C6 (fun h => h)
                  have HC6 : Hid (Chg (fun b => b = db) W2 W6) := HC5.out.drew.trans (C6.mono fun _ h => h.elim)
                  clear HS9 C6 HPC HR5 HC5
                  have HS9 := HS10
                  clear HS10
                  refine ⟨.inr HS9, ?_⟩
                  simp only [Act.put, List.setIfInBounds_toArray, List.set_cons_zero, List.set_cons_succ]
                  refine wpAnyS_take 7 (.bool false) rfl (by kernel_rfl) (by kernel_rfl) (by kernel_rfl) (by kernel_rfl) (fun _ _ _ h => h) (by rfl) HS9 (fun _ _ => run_geq3 rfl rfl rfl hge) ?_
                  simp only [Act.put, List.setIfInBounds_toArray, List.set_cons_zero, List.set_cons_succ]
                  refine wpAnyS_done (by kernel_rfl) ?_
                  go_wp2_with fail
                  go_roundw
                  case rel => exact ⟨j + 1, by omega, by go_num, HR6, HC6⟩
                  case measure => simp [intOf]; omega
                · have hq' : (pr j == pr p) = false := by simpa using hq
                  have HQ : Hid (¬ pr j = pr m.p.toNat) := by unfold Hid; rw [HPP.out]; simpa using hq
                  clear hq
                  have HW : Hid (wp ms pr (t + 1) j = z) := by unfold Hid; rw [HS.out, HZ.out, wsp]; rw [if_neg HRC.out, if_pos hz, if_neg HQ.out]
                  have h4 := H4.out
                  rw [HW.out] at h4
                  go_wp2_with fail
                  go_quiet (fail)
                  go_wp2_with fail
                  have R5 : RowV (wr.drewN nq) db N (mid (fun x => .int .i64 (wp ms pr (t + 1) x)) (fun x => .int .i64 (wp ms pr t x)) (j + 1)) := by rw [← mid_keep (by rw [HW.out, HZ.out])]; exact HRJ.out
                  have C5 : Chg (fun b => b = db) W2 (wr.drewN nq) := (HCJ.out.drewN _)
                  generalize (wr.drewN nq) = W5 at *
                  have HR5 : Hid (RowV W5 db N (mid (fun x => .int .i64 (wp ms pr (t + 1) x)) (fun x => .int .i64 (wp ms pr t x)) (j + 1))) := R5
                  have HC5 : Hid (Chg (fun b => b = db) W2 W5) := C5
                  clear R5 C5
                  have HS9 : W5.drew.cell? ⟨db, 0 + j, none⟩ = some (.int .i64 (z)) := by
                    rw [Nat.zero_add]
                    have := HR5.out.cell hjN
                    rw [show mid (fun x => Value.int .i64 (wp ms pr (t + 1) x)) (fun x => Value.int .i64 (wp ms pr t x)) (j + 1) j = .int .i64 (wp ms pr (t + 1) j) by simp [mid], HW.out] at this
                    exact this
                  have HPC : Hid (∀ i, i < N → W5.drew.cell? ⟨pb, po + i, none⟩ = some (.int .i64 (pr i))) := fun i hi => by
                    have hcw : Chg No w W5 := (HCW.out.trans HC2.out).over HC5.out (fun b h => by have := HD.out; omega)
                    have := hcw.cell (p := ⟨pb, po + i, none⟩) (cell_lt (HPW.out i hi)) (fun h => h)
                    exact this.trans (HPW.out i hi)
                  have hge : decide ((cntE pr (pr j) N : Int) ≤ z) = false := by simp; omega
                  refine wp_region_S (fun W => W.cell? ⟨db, 0 + j, none⟩ = some (.int .i64 (z))) [0, 1, 2, 3, 4, 5, 7] (by kernel_rfl) ?_
                  refine wpAnyS_take 0 (.slice (some ⟨db, 0, none⟩) N N) rfl (by kernel_rfl) (by kernel_rfl) (by kernel_rfl) (by kernel_rfl) (fun _ _ _ h => h) (by rfl) HS9 (fun _ _ => rfl) ?_
                  simp only [Act.put, List.setIfInBounds_toArray, List.set_cons_zero, List.set_cons_succ]
                  refine wpAnyS_take 1 (.int .i64 (j : Int)) rfl (by kernel_rfl) (by kernel_rfl) (by kernel_rfl) (by kernel_rfl) (fun _ _ _ h => h) (by rfl) HS9 (fun _ _ => rfl) ?_
                  simp only [Act.put, List.setIfInBounds_toArray, List.set_cons_zero, List.set_cons_succ]
                  refine wpAnyS_take 2 (.pointer (some ⟨db, 0 + j, none⟩)) rfl (by kernel_rfl) (by kernel_rfl) (by kernel_rfl) (by kernel_rfl) (fun _ _ _ h => h) (by rfl) HS9 (fun _ _ => run_index23 rfl rfl rfl hjN) ?_
                  simp only [Act.put, List.setIfInBounds_toArray, List.set_cons_zero, List.set_cons_succ]
                  refine wpAnyS_take 3 (.int .i64 (z)) rfl (by kernel_rfl) (by kernel_rfl) (by kernel_rfl) (by kernel_rfl) (fun _ _ _ h => h) (by rfl) HS9 (fun _ h => run_load3 rfl rfl h) ?_
                  simp only [Act.put, List.setIfInBounds_toArray, List.set_cons_zero, List.set_cons_succ]
                  refine wpAnyS_take 4 (.slice (some ⟨pb, po, none⟩) N c2) rfl (by kernel_rfl) (by kernel_rfl) (by kernel_rfl) (by kernel_rfl) (fun _ _ _ h => h) (by rfl) HS9 (fun _ _ => rfl) ?_
                  simp only [Act.put, List.setIfInBounds_toArray, List.set_cons_zero, List.set_cons_succ]
                  refine wpAnyS_take 5 (.int .i64 (j : Int)) rfl (by kernel_rfl) (by kernel_rfl) (by kernel_rfl) (by kernel_rfl) (fun _ _ _ h => h) (by rfl) HS9 (fun _ _ => rfl) ?_
                  simp only [Act.put, List.setIfInBounds_toArray, List.set_cons_zero, List.set_cons_succ]
                  refine wpAnyS_one 6 rfl (by kernel_rfl) (by rfl) ?_
                  refine wp_callF 53 Yapd.func53 rfl (by kernel_rfl) [.slice (some ⟨pb, po, none⟩) N c2, .int .i64 (j : Int)] rfl rfl (fun v w' => v = .int .i64 (cntE pr (pr j) N : Int) ∧ Chg No W5.drew w')
                    ((equals_any W5.drew N hN pb po c2 pr HPC j hjN).mono fun e w' h => ⟨_, h.1, rfl, h.2⟩) ?_
                  rintro v W6 ⟨rfl, C6⟩
                  have HS10 : W6.cell? ⟨db, 0 + j, none⟩ = some (.int .i64 (z)) := by
                    rw [C6.cell (p := ⟨db, 0 + j, none⟩) (cell_lt HS9) (fun h => h)]; exact HS9
                  have HR6 : Hid (RowV W6 db N (mid (fun x => .int .i64 (wp ms pr (t + 1) x)) (fun x => .int .i64 (wp ms pr t x)) (j + 1))) := RowV.chg (w := W5.drew) HR5.out C6 (fun h => h)
                  have HC6 : Hid (Chg (fun b => b = db) W2 W6) := HC5.out.drew.trans (C6.mono fun _ h => h.elim)
                  clear HS9 C6 HPC HR5 HC5
                  have HS9 := HS10
                  clear HS10
                  refine ⟨.inr HS9, ?_⟩
                  simp only [Act.put, List.setIfInBounds_toArray, List.set_cons_zero, List.set_cons_succ]
                  refine wpAnyS_take 7 (.bool false) rfl (by kernel_rfl) (by kernel_rfl) (by kernel_rfl) (by kernel_rfl) (fun _ _ _ h => h) (by rfl) HS9 (fun _ _ => run_geq3 rfl rfl rfl hge) ?_
                  simp only [Act.put, List.setIfInBounds_toArray, List.set_cons_zero, List.set_cons_succ]
                  refine wpAnyS_done (by kernel_rfl) ?_
                  go_wp2_with fail
                  go_roundw
                  case rel => exact ⟨j + 1, by omega, by go_num, HR6, HC6⟩
                  case measure => simp [intOf]; omega
              · have hz1 : z = -1 := by omega
                subst hz1
                clear hz
                by_cases hst : m.st j = 0
                · have HST : Hid (m.st j = 0) := hst
                  rw [hst] at s1
                  clear hst
                  have HW : Hid (wp ms pr (t + 1) j = 0) := by unfold Hid; rw [HS.out, HZ.out, wsp]; rw [if_neg HRC.out, if_neg (by omega), if_pos HST.out]
                  have h4 := H4.out
                  rw [HW.out] at h4
                  go_wp2_with fail
                  go_quiet (fail)
                  go_wp2_with fail
                  have R5 : RowV ((wr.drewN nq).setCell ⟨db, j, none⟩ (.int .i64 0)) db N (mid (fun x => .int .i64 (wp ms pr (t + 1) x)) (fun x => .int .i64 (wp ms pr t x)) (j + 1)) := by rw [← mid_store (v := .int .i64 0) (by rw [HW.out])]; exact RowV.set (w := wr.drewN nq) HRJ.out j _
                  have C5 : Chg (fun b => b = db) W2 ((wr.drewN nq).setCell ⟨db, j, none⟩ (.int .i64 0)) := ((HCJ.out.drewN _).setCell (.inl rfl) _)
                  generalize ((wr.drewN nq).setCell ⟨db, j, none⟩ (.int .i64 0)) = W5 at *
                  have HR5 : Hid (RowV W5 db N (mid (fun x => .int .i64 (wp ms pr (t + 1) x)) (fun x => .int .i64 (wp ms pr t x)) (j + 1))) := R5
                  have HC5 : Hid (Chg (fun b => b = db) W2 W5) := C5
                  clear R5 C5
                  have HS9 : W5.drew.cell? ⟨db, 0 + j, none⟩ = some (.int .i64 (0)) := by
                    rw [Nat.zero_add]
                    have := HR5.out.cell hjN
                    rw [show mid (fun x => Value.int .i64 (wp ms pr (t + 1) x)) (fun x => Value.int .i64 (wp ms pr t x)) (j + 1) j = .int .i64 (wp ms pr (t + 1) j) by simp [mid], HW.out] at this
                    exact this
                  have HPC : Hid (∀ i, i < N → W5.drew.cell? ⟨pb, po + i, none⟩ = some (.int .i64 (pr i))) := fun i hi => by
                    have hcw : Chg No w W5 := (HCW.out.trans HC2.out).over HC5.out (fun b h => by have := HD.out; omega)
                    have := hcw.cell (p := ⟨pb, po + i, none⟩) (cell_lt (HPW.out i hi)) (fun h => h)
                    exact this.trans (HPW.out i hi)
                  have hge : decide ((cntE pr (pr j) N : Int) ≤ 0) = false := by simp; omega
                  refine wp_region_S (fun W => W.cell? ⟨db, 0 + j, none⟩ = some (.int .i64 (0))) [0, 1, 2, 3, 4, 5, 7] (by kernel_rfl) ?_
                  refine wpAnyS_take 0 (.slice (some ⟨db, 0, none⟩) N N) rfl (by kernel_rfl) (by kernel_rfl) (by kernel_rfl) (by kernel_rfl) (fun _ _ _ h => h) (by rfl) HS9 (fun _ _ => rfl) ?_
                  simp only [Act.put, List.setIfInBounds_toArray, List.set_cons_zero, List.set_cons_succ]
                  refine wpAnyS_take 1 (.int .i64 (j : Int)) rfl (by kernel_rfl) (by kernel_rfl) (by kernel_rfl) (by kernel_rfl) (fun _ _ _ h => h) (by rfl) HS9 (fun _ _ => rfl) ?_
                  simp only [Act.put, List.setIfInBounds_toArray, List.set_cons_zero, List.set_cons_succ]
                  refine wpAnyS_take 2 (.pointer (some ⟨db, 0 + j, none⟩)) rfl (by kernel_rfl) (by kernel_rfl) (by kernel_rfl) (by kernel_rfl) (fun _ _ _ h => h) (by rfl) HS9 (fun _ _ => run_index23 rfl rfl rfl hjN) ?_
                  simp only [Act.put, List.setIfInBounds_toArray, List.set_cons_zero, List.set_cons_succ]
                  refine wpAnyS_take 3 (.int .i64 (0)) rfl (by kernel_rfl) (by kernel_rfl) (by kernel_rfl) (by kernel_rfl) (fun _ _ _ h => h) (by rfl) HS9 (fun _ h => run_load3 rfl rfl h) ?_
                  simp only [Act.put, List.setIfInBounds_toArray, List.set_cons_zero, List.set_cons_succ]
                  refine wpAnyS_take 4 (.slice (some ⟨pb, po, none⟩) N c2) rfl (by kernel_rfl) (by kernel_rfl) (by kernel_rfl) (by kernel_rfl) (fun _ _ _ h => h) (by rfl) HS9 (fun _ _ => rfl) ?_
                  simp only [Act.put, List.setIfInBounds_toArray, List.set_cons_zero, List.set_cons_succ]
                  refine wpAnyS_take 5 (.int .i64 (j : Int)) rfl (by kernel_rfl) (by kernel_rfl) (by kernel_rfl) (by kernel_rfl) (fun _ _ _ h => h) (by rfl) HS9 (fun _ _ => rfl) ?_
                  simp only [Act.put, List.setIfInBounds_toArray, List.set_cons_zero, List.set_cons_succ]
                  refine wpAnyS_one 6 rfl (by kernel_rfl) (by rfl) ?_
                  refine wp_callF 53 Yapd.func53 rfl (by kernel_rfl) [.slice (some ⟨pb, po, none⟩) N c2, .int .i64 (j : Int)] rfl rfl (fun v w' => v = .int .i64 (cntE pr (pr j) N : Int) ∧ Chg No W5.drew w')
                    ((equals_any W5.drew N hN pb po c2 pr HPC j hjN).mono fun e w' h => ⟨_, h.1, rfl, h.2⟩) ?_
                  rintro v W6 ⟨rfl, C6⟩
                  have HS10 : W6.cell? ⟨db, 0 + j, none⟩ = some (.int .i64 (0)) := by
                    rw [C6.cell (p := ⟨db, 0 + j, none⟩) (cell_lt HS9) (fun h => h)]; exact HS9
                  have HR6 : Hid (RowV W6 db N (mid (fun x => .int .i64 (wp ms pr (t + 1) x)) (fun x => .int .i64 (wp ms pr t x)) (j + 1))) := RowV.chg (w := W5.drew) HR5.out C6 (fun h => h)
                  have HC6 : Hid (Chg (fun b => b = db) W2 W6) := HC5.out.drew.trans (C6.mono fun _ h => h.elim)
                  clear HS9 C6 HPC HR5 HC5
                  have HS9 := HS10
                  clear HS10
                  refine ⟨.inr HS9, ?_⟩
                  simp only [Act.put, List.setIfInBounds_toArray, List.set_cons_zero, List.set_cons_succ]
                  refine wpAnyS_take 7 (.bool false) rfl (by kernel_rfl) (by kernel_rfl) (by kernel_rfl) (by kernel_rfl) (fun _ _ _ h => h) (by rfl) HS9 (fun _ _ => run_geq3 rfl rfl rfl hge) ?_
                  simp only [Act.put, List.setIfInBounds_toArray, List.set_cons_zero, List.set_cons_succ]
                  refine wpAnyS_done (by kernel_rfl) ?_
                  go_wp2_with fail
                  go_roundw
                  case rel => exact ⟨j + 1, by omega, by go_num, HR6, HC6⟩
                  case measure => simp [intOf]; omega
                · have hs' : (m.st j == 0) = false := by simp [hst]
                  have HST : Hid (¬ m.st j = 0) := hst
                  clear hst
                  have HW : Hid (wp ms pr (t + 1) j = -1) := by unfold Hid; rw [HS.out, HZ.out, wsp]; rw [if_neg HRC.out, if_neg (by omega), if_neg HST.out]
                  have h4 := H4.out
                  rw [HW.out] at h4
                  go_wp2_with fail
                  go_quiet (fail)
                  go_wp2_with fail
                  have R5 : RowV (wr.drewN nq) db N (mid (fun x => .int .i64 (wp ms pr (t + 1) x)) (fun x => .int .i64 (wp ms pr t x)) (j + 1)) := by rw [← mid_keep (by rw [HW.out, HZ.out])]; exact HRJ.out
                  have C5 : Chg (fun b => b = db) W2 (wr.drewN nq) := (HCJ.out.drewN _)
                  generalize (wr.drewN nq) = W5 at *
                  have HR5 : Hid (RowV W5 db N (mid (fun x => .int .i64 (wp ms pr (t + 1) x)) (fun x => .int .i64 (wp ms pr t x)) (j + 1))) := R5
                  have HC5 : Hid (Chg (fun b => b = db) W2 W5) := C5
                  clear R5 C5
                  have HS9 : W5.drew.cell? ⟨db, 0 + j, none⟩ = some (.int .i64 (-1)) := by
                    rw [Nat.zero_add]
                    have := HR5.out.cell hjN
                    rw [show mid (fun x => Value.int .i64 (wp ms pr (t + 1) x)) (fun x => Value.int .i64 (wp ms pr t x)) (j + 1) j = .int .i64 (wp ms pr (t + 1) j) by simp [mid], HW.out] at this
                    exact this
                  have HPC : Hid (∀ i, i < N → W5.drew.cell? ⟨pb, po + i, none⟩ = some (.int .i64 (pr i))) := fun i hi => by
                    have hcw : Chg No w W5 := (HCW.out.trans HC2.out).over HC5.out (fun b h => by have := HD.out; omega)
                    have := hcw.cell (p := ⟨pb, po + i, none⟩) (cell_lt (HPW.out i hi)) (fun h => h)
                    exact this.trans (HPW.out i hi)
                  have hge : decide ((cntE pr (pr j) N : Int) ≤ -1) = false := by simp; omega
                  refine wp_region_S (fun W => W.cell? ⟨db, 0 + j, none⟩ = some (.int .i64 (-1))) [0, 1, 2, 3, 4, 5, 7] (by kernel_rfl) ?_
                  refine wpAnyS_take 0 (.slice (some ⟨db, 0, none⟩) N N) rfl (by kernel_rfl) (by kernel_rfl) (by kernel_rfl) (by kernel_rfl) (fun _ _ _ h => h) (by rfl) HS9 (fun _ _ => rfl) ?_
                  simp only [Act.put, List.setIfInBounds_toArray, List.set_cons_zero, List.set_cons_succ]
                  refine wpAnyS_take 1 (.int .i64 (j : Int)) rfl (by kernel_rfl) (by kernel_rfl) (by kernel_rfl) (by kernel_rfl) (fun _ _ _ h => h) (by rfl) HS9 (fun _ _ => rfl) ?_
                  simp only [Act.put, List.setIfInBounds_toArray, List.set_cons_zero, List.set_cons_succ]
                  refine wpAnyS_take 2 (.pointer (some ⟨db, 0 + j, none⟩)) rfl (by kernel_rfl) (by kernel_rfl) (by kernel_rfl) (by kernel_rfl) (fun _ _ _ h => h) (by rfl) HS9 (fun _ _ => run_index23 rfl rfl rfl hjN) ?_
                  simp only [Act.put, List.setIfInBounds_toArray, List.set_cons_zero, List.set_cons_succ]
                  refine wpAnyS_take 3 (.int .i64 (-1)) rfl (by kernel_rfl) (by kernel_rfl) (by kernel_rfl) (by kernel_rfl) (fun _ _ _ h => h) (by rfl) HS9 (fun _ h => run_load3 rfl rfl h) ?_
                  simp only [Act.put, List.setIfInBounds_toArray, List.set_cons_zero, List.set_cons_succ]
                  refine wpAnyS_take 4 (.slice (some ⟨pb, po, none⟩) N c2) rfl (by kernel_rfl) (by kernel_rfl) (by kernel_rfl) (by kernel_rfl) (fun _ _ _ h => h) (by rfl) HS9 (fun _ _ => rfl) ?_
                  simp only [Act.put, List.setIfInBounds_toArray, List.set_cons_zero, List.set_cons_succ]
                  refine wpAnyS_take 5 (.int .i64 (j : Int)) rfl (by kernel_rfl) (by kernel_rfl) (by kernel_rfl) (by kernel_rfl) (fun _ _ _ h => h) (by rfl) HS9 (fun _ _ => rfl) ?_
                  simp only [Act.put, List.setIfInBounds_toArray, List.set_cons_zero, List.set_cons_succ]
                  refine wpAnyS_one 6 rfl (by kernel_rfl) (by rfl) ?_
                  refine wp_callF 53 Yapd.func53 rfl (by kernel_rfl) [.slice (some ⟨pb, po, none⟩) N c2, .int .i64 (j : Int)] rfl rfl (fun v w' => v = .int .i64 (cntE pr (pr j) N : Int) ∧ Chg No W5.drew w')
                    ((equals_any W5.drew N hN pb po c2 pr HPC j hjN).mono fun e w' h => ⟨_, h.1, rfl, h.2⟩) ?_
                  rintro v W6 ⟨rfl, C6⟩
                  have HS10 : W6.cell? ⟨db, 0 + j, none⟩ = some (.int .i64 (-1)) := by
                    rw [C6.cell (p := ⟨db, 0 + j, none⟩) (cell_lt HS9) (fun h => h)]; exact HS9
                  have HR6 : Hid (RowV W6 db N (mid (fun x => .int .i64 (wp ms pr (t + 1) x)) (fun x => .int .i64 (wp ms pr t x)) (j + 1))) := RowV.chg (w := W5.drew) HR5.out C6 (fun h => h)
                  have HC6 : Hid (Chg (fun b => b = db) W2 W6) := HC5.out.drew.trans (C6.mono fun _ h => h.elim)
                  clear HS9 C6 HPC HR5 HC5
                  have HS9 := HS10
                  clear HS10
                  refine ⟨.inr HS9, ?_⟩
                  simp only [Act.put, List.setIfInBounds_toArray, List.set_cons_zero, List.set_cons_succ]
                  refine wpAnyS_take 7 (.bool false) rfl (by kernel_rfl) (by kernel_rfl) (by kernel_rfl) (by kernel_rfl) (fun _ _ _ h => h) (by rfl) HS9 (fun _ _ => run_geq3 rfl rfl rfl hge) ?_
                  simp only [Act.put, List.setIfInBounds_toArray, List.set_cons_zero, List.set_cons_succ]
                  refine wpAnyS_done (by kernel_rfl) ?_
                  go_wp2_with fail
                  go_roundw
                  case rel => exact ⟨j + 1, by omega, by go_num, HR6, HC6⟩
                  case measure => simp [intOf]; omega
            · cases x3
              · have HRC : Hid (¬ ((j : Int) = m.p ∨ (m.kd = 7 ∧ m.a = (j : Int)))) := by unfold Hid; rw [HPP.out]; simp at hx1 hx3; omega
                clear hx1K
                by_cases hz : 0 ≤ z
                · by_cases hq : pr j = pr p
                  · have hq' : (pr j == pr p) = true := by simpa using hq
                    have HQ : Hid (pr j = pr m.p.toNat) := by unfold Hid; rw [HPP.out]; simpa using hq
                    clear hq
                    have HW : Hid (wp ms pr (t + 1) j = z + 1) := by unfold Hid; rw [HS.out, HZ.out, wsp]; rw [if_neg HRC.out, if_pos hz, if_pos HQ.out]
                    have h4 := H4.out
                    rw [HW.out] at h4
                    go_wp2_with fail
                    go_quiet (fail)
                    go_wp2_with fail
                    have R5 : RowV ((wr.drewN nq).setCell ⟨db, j, none⟩ (.int .i64 (z + 1))) db N (mid (fun x => .int .i64 (wp ms pr (t + 1) x)) (fun x => .int .i64 (wp ms pr t x)) (j + 1)) := by rw [← mid_store (v := .int .i64 (z + 1)) (by rw [HW.out])]; exact RowV.set (w := wr.drewN nq) HRJ.out j _
                    have C5 : Chg (fun b => b = db) W2 ((wr.drewN nq).setCell ⟨db, j, none⟩ (.int .i64 (z + 1))) := ((HCJ.out.drewN _).setCell (.inl rfl) _)
                    generalize ((wr.drewN nq).setCell ⟨db, j, none⟩ (.int .i64 (z + 1))) = W5 at *
                    have HR5 : Hid (RowV W5 db N (mid (fun x => .int .i64 (wp ms pr (t + 1) x)) (fun x => .int .i64 (wp ms pr t x)) (j + 1))) := R5
                    have HC5 : Hid (Chg (fun b => b = db) W2 W5) := C5
                    clear R5 C5
                    have HS9 : W5.drew.cell? ⟨db, 0 + j, none⟩ = some (.int .i64 (z + 1)) := by
                      rw [Nat.zero_add]
                      have := HR5.out.cell hjN
                      rw [show mid (fun x => Value.int .i64 (wp ms pr (t + 1) x)) (fun x => Value.int .i64 (wp ms pr t x)) (j + 1) j = .int .i64 (wp ms pr (t + 1) j) by simp [mid], HW.out] at this
                      exact this
                    have HPC : Hid (∀ i, i < N → W5.drew.cell? ⟨pb, po + i, none⟩ = some (.int .i64 (pr i))) := fun i hi => by
                      have hcw : Chg No w W5 := (HCW.out.trans HC2.out).over HC5.out (fun b h => by have := HD.out; omega)
                      have := hcw.cell (p := ⟨pb, po + i, none⟩) (cell_lt (HPW.out i hi)) (fun h => h)
                      exact this.trans (HPW.out i hi)
                    have hge : decide ((cntE pr (pr j) N : Int) ≤ z + 1) = false := by simp; omega
                    refine wp_region_S (fun W => W.cell? ⟨db, 0 + j, none⟩ = some (.int .i64 (z + 1))) [0, 1, 2, 3, 4, 5, 7] (by kernel_rfl) ?_
                    refine wpAnyS_take 0 (.slice (some ⟨db, 0, none⟩) N N) rfl (by kernel_rfl) (by kernel_rfl) (by kernel_rfl) (by kernel_rfl) (fun _ _ _ h => h) (by rfl) HS9 (fun _ _ => rfl) ?_
                    simp only [Act.put, List.setIfInBounds_toArray, List.set_cons_zero, List.set_cons_succ]
                    refine wpAnyS_take 1 (.int .i64 (j : Int)) rfl (by kernel_rfl) (by kernel_rfl) (by kernel_rfl) (by kernel_rfl) (fun _ _ _ h => h) (by rfl) HS9 (fun _ _ => rfl) ?_
                    simp only [Act.put, List.setIfInBounds_toArray, List.set_cons_zero, List.set_cons_succ]
                    refine wpAnyS_take 2 (.pointer (some ⟨db, 0 + j, none⟩)) rfl (by kernel_rfl) (by kernel_rfl) (by kernel_rfl) (by kernel_rfl) (fun _ _ _ h => h) (by rfl) HS9 (fun _ _ => run_index23 rfl rfl rfl hjN) ?_
                    simp only [Act.put, List.setIfInBounds_toArray, List.set_cons_zero, List.set_cons_succ]
                    refine wpAnyS_take 3 (.int .i64 (z + 1)) rfl (by kernel_rfl) (by kernel_rfl) (by kernel_rfl) (by kernel_rfl) (fun _ _ _ h => h) (by rfl) HS9 (fun _ h => run_load3 rfl rfl h) ?_
                    simp only [Act.put, List.setIfInBounds_toArray, List.set_cons_zero, List.set_cons_succ]
                    refine wpAnyS_take 4 (.slice (some ⟨pb, po, none⟩) N c2) rfl (by kernel_rfl) (by kernel_rfl) (by kernel_rfl) (by kernel_rfl) (fun _ _ _ h => h) (by rfl) HS9 (fun _ _ => rfl) ?_
                    simp only [Act.put, List.setIfInBounds_toArray, List.set_cons_zero, List.set_cons_succ]
                    refine wpAnyS_take 5 (.int .i64 (j : Int)) rfl (by kernel_rfl) (by kernel_rfl) (by kernel_rfl) (by kernel_rfl) (fun _ _ _ h => h) (by rfl) HS9 (fun _ _ => rfl) ?_
                    simp only [Act.put, List.setIfInBounds_toArray, List.set_cons_zero, List.set_cons_succ]
                    refine wpAnyS_one 6 rfl (by kernel_rfl) (by rfl) ?_
                    refine wp_callF 53 Yapd.func53 rfl (by kernel_rfl) [.slice (some ⟨pb, po, none⟩) N c2, .int .i64 (j : Int)] rfl rfl (fun v w' => v = .int .i64 (cntE pr (pr j) N : Int) ∧ Chg No W5.drew w')
                      ((equals_any W5.drew N hN pb po c2 pr HPC j hjN).mono fun e w' h => ⟨_, h.1, rfl, h.2⟩) ?_
                    rintro v W6 ⟨rfl, C6⟩
                    have HS10 : W6.cell? ⟨db, 0 + j, none⟩ = some (.int .i64 (z + 1)) := by
                      rw [C6.cell (p := ⟨db, 0 + j, none⟩) (cell_lt HS9) (fun h => h)]; exact HS9
                    have HR6 : Hid (RowV W6 db N (mid (fun x => .int .i64 (wp ms pr (t + 1) x)) (fun x => .int .i64 (wp ms pr t x)) (j + 1))) := RowV.chg (w := W5.drew) HR5.out C6 (fun h => h)
                    have HC6 : Hid (Chg (fun b => b = db) W2 W6) := HC5.out.drew.trans (C6.mono fun _ h => h.elim)
                    clear HS9 C6 HPC HR5 HC5
                    have HS9 := HS10
                    clear HS10
                    refine ⟨.inr HS9, ?_⟩
                    simp only [Act.put, List.setIfInBounds_toArray, List.set_cons_zero, List.set_cons_succ]
                    refine wpAnyS_take 7 (.bool false) rfl (by kernel_rfl) (by kernel_rfl) (by kernel_rfl) (by kernel_rfl) (fun _ _ _ h => h) (by rfl) HS9 (fun _ _ => run_geq3 rfl rfl rfl hge) ?_
                    simp only [Act.put, List.setIfInBounds_toArray, List.set_cons_zero, List.set_cons_succ]
                    refine wpAnyS_done (by kernel_rfl) ?_
                    go_wp2_with fail
                    go_roundw
                    case rel => exact ⟨j + 1, by omega, by go_num, HR6, HC6⟩
                    case measure => simp [intOf]; omega
                  · have hq' : (pr j == pr p) = false := by simpa using hq
                    have HQ : Hid (¬ pr j = pr m.p.toNat) := by unfold Hid; rw [HPP.out]; simpa using hq
                    clear hq
                    have HW : Hid (wp ms pr (t + 1) j = z) := by unfold Hid; rw [HS.out, HZ.out, wsp]; rw [if_neg HRC.out, if_pos hz, if_neg HQ.out]
                    have h4 := H4.out
                    rw [HW.out] at h4
                    go_wp2_with fail
                    go_quiet (fail)
                    go_wp2_with fail
                    have R5 : RowV (wr.drewN nq) db N (mid (fun x => .int .i64 (wp ms pr (t + 1) x)) (fun x => .int .i64 (wp ms pr t x)) (j + 1)) := by rw [← mid_keep (by rw [HW.out, HZ.out])]; exact HRJ.out
                    have C5 : Chg (fun b => b = db) W2 (wr.drewN nq) := (HCJ.out.drewN _)
                    generalize (wr.drewN nq) = W5 at *
                    have HR5 : Hid (RowV W5 db N (mid (fun x => .int .i64 (wp ms pr (t + 1) x)) (fun x => .int .i64 (wp ms pr t x)) (j + 1))) := R5
                    have HC5 : Hid (Chg (fun b => b = db) W2 W5) := C5
                    clear R5 C5
                    have HS9 : W5.drew.cell? ⟨db, 0 + j, none⟩ = some (.int .i64 (z)) := by
                      rw [Nat.zero_add]
                      have := HR5.out.cell hjN
                      rw [show mid (fun x => Value.int .i64 (wp ms pr (t + 1) x)) (fun x => Value.int .i64 (wp ms pr t x)) (j + 1) j = .int .i64 (wp ms pr (t + 1) j) by simp [mid], HW.out] at this
                      exact this
                    have HPC : Hid (∀ i, i < N → W5.drew.cell? ⟨pb, po + i, none⟩ = some (.int .i64 (pr i))) := fun i hi => by
                      have hcw : Chg No w W5 := (HCW.out.trans HC2.out).over HC5.out (fun b h => by have := HD.out; omega)
                      have := hcw.cell (p := ⟨pb, po + i, none⟩) (cell_lt (HPW.out i hi)) (fun h => h)
                      exact this.trans (HPW.out i hi)
                    have hge : decide ((cntE pr (pr j) N : Int) ≤ z) = false := by simp; omega
                    refine wp_region_S (fun W => W.cell? ⟨db, 0 + j, none⟩ = some (.int .i64 (z))) [0, 1, 2, 3, 4, 5, 7] (by kernel_rfl) ?_
                    refine wpAnyS_take 0 (.slice (some ⟨db, 0, none⟩) N N) rfl (by kernel_rfl) (by kernel_rfl) (by kernel_rfl) (by kernel_rfl) (fun _ _ _ h => h) (by rfl) HS9 (fun _ _ => rfl) ?_
                    simp only [Act.put, List.setIfInBounds_toArray, List.set_cons_zero, List.set_cons_succ]
                    refine wpAnyS_take 1 (.int .i64 (j : Int)) rfl (by kernel_rfl) (by kernel_rfl) (by kernel_rfl) (by kernel_rfl) (fun _ _ _ h => h) (by rfl) HS9 (fun _ _ => rfl) ?_
                    simp only [Act.put, List.setIfInBounds_toArray, List.set_cons_zero, List.set_cons_succ]
                    refine wpAnyS_take 2 (.pointer (some ⟨db, 0 + j, none⟩)) rfl (by kernel_rfl) (by kernel_rfl) (by kernel_rfl) (by kernel_rfl) (fun _ _ _ h => h) (by rfl) HS9 (fun _ _ => run_index23 rfl rfl rfl hjN) ?_
                    simp only [Act.put, List.setIfInBounds_toArray, List.set_cons_zero, List.set_cons_succ]
                    refine wpAnyS_take 3 (.int .i64 (z)) rfl (by kernel_rfl) (by kernel_rfl) (by kernel_rfl) (by kernel_rfl) (fun _ _ _ h => h) (by rfl) HS9 (fun _ h => run_load3 rfl rfl h) ?_
                    simp only [Act.put, List.setIfInBounds_toArray, List.set_cons_zero, List.set_cons_succ]
                    refine wpAnyS_take 4 (.slice (some ⟨pb, po, none⟩) N c2) rfl (by kernel_rfl) (by kernel_rfl) (by kernel_rfl) (by kernel_rfl) (fun _ _ _ h => h) (by rfl) HS9 (fun _ _ => rfl) ?_
                    simp only [Act.put, List.setIfInBounds_toArray, List.set_cons_zero, List.set_cons_succ]
                    refine wpAnyS_take 5 (.int .i64 (j : Int)) rfl (by kernel_rfl) (by kernel_rfl) (by kernel_rfl) (by kernel_rfl) (fun _ _ _ h => h) (by rfl) HS9 (fun _ _ => rfl) ?_
                    simp only [Act.put, List.setIfInBounds_toArray, List.set_cons_zero, List.set_cons_succ]
                    refine wpAnyS_one 6 rfl (by kernel_rfl) (by rfl) ?_
                    refine wp_callF 53 Yapd.func53 rfl (by kernel_rfl) [.slice (some ⟨pb, po, none⟩) N c2, .int .i64 (j : Int)] rfl rfl (fun v w' => v = .int .i64 (cntE pr (pr j) N : Int) ∧ Chg No W5.drew w')
                      ((equals_any W5.drew N hN pb po c2 pr HPC j hjN).mono fun e w' h => ⟨_, h.1, rfl, h.2⟩) ?_
                    rintro v W6 ⟨rfl, C6⟩
                    have HS10 : W6.cell? ⟨db, 0 + j, none⟩ = some (.int .i64 (z)) := by
                      rw [C6.cell (p := ⟨db, 0 + j, none⟩) (cell_lt HS9) (fun h => h)]; exact HS9
                    have HR6 : Hid (RowV W6 db N (mid (fun x => .int .i64 (wp ms pr (t + 1) x)) (fun x => .int .i64 (wp ms pr t x)) (j + 1))) := RowV.chg (w := W5.drew) HR5.out C6 (fun h => h)
                    have HC6 : Hid (Chg (fun b => b = db) W2 W6) := HC5.out.drew.trans (C6.mono fun _ h => h.elim)
                    clear HS9 C6 HPC HR5 HC5
                    have HS9 := HS10
                    clear HS10
                    refine ⟨.inr HS9, ?_⟩
                    simp only [Act.put, List.setIfInBounds_toArray, List.set_cons_zero, List.set_cons_succ]
                    refine wpAnyS_take 7 (.bool false) rfl (by kernel_rfl) (by kernel_rfl) (by kernel_rfl) (by kernel_rfl) (fun _ _ _ h => h) (by rfl) HS9 (fun _ _ => run_geq3 rfl rfl rfl hge) ?_
                    simp only [Act.put, List.setIfInBounds_toArray, List.set_cons_zero, List.set_cons_succ]
                    refine wpAnyS_done (by kernel_rfl) ?_
                    go_wp2_with fail
                    go_roundw
                    case rel => exact ⟨j + 1, by omega, by go_num, HR6, HC6⟩
                    case measure => simp [intOf]; omega
                · have hz1 : z = -1 := by omega
                  subst hz1
                  clear hz
                  by_cases hst : m.st j = 0
                  · have HST : Hid (m.st j = 0) := hst
                    rw [hst] at s1
                    clear hst
                    have HW : Hid (wp ms pr (t + 1) j = 0) := by unfold Hid; rw [HS.out, HZ.out, wsp]; rw [if_neg HRC.out, if_neg (by omega), if_pos HST.out]
                    have h4 := H4.out
                    rw [HW.out] at h4
                    go_wp2_with fail
                    go_quiet (fail)
                    go_wp2_with fail
                    have R5 : RowV ((wr.drewN nq).setCell ⟨db, j, none⟩ (.int .i64 0)) db N (mid (fun x => .int .i64 (wp ms pr (t + 1) x)) (fun x => .int .i64 (wp ms pr t x)) (j + 1)) := by rw [← mid_store (v := .int .i64 0) (by rw [HW.out])]; exact RowV.set (w := wr.drewN nq) HRJ.out j _
                    have C5 : Chg (fun b => b = db) W2 ((wr.drewN nq).setCell ⟨db, j, none⟩ (.int .i64 0)) := ((HCJ.out.drewN _).setCell (.inl rfl) _)
                    generalize ((wr.drewN nq).setCell ⟨db, j, none⟩ (.int .i64 0)) = W5 at *
                    have HR5 : Hid (RowV W5 db N (mid (fun x => .int .i64 (wp ms pr (t + 1) x)) (fun x => .int .i64 (wp ms pr t x)) (j + 1))) := R5
                    have HC5 : Hid (Chg (fun b => b = db) W2 W5) := C5
                    clear R5 C5
                    have HS9 : W5.drew.cell? ⟨db, 0 + j, none⟩ = some (.int .i64 (0)) := by
                      rw [Nat.zero_add]
                      have := HR5.out.cell hjN
                      rw [show mid (fun x => Value.int .i64 (wp ms pr (t + 1) x)) (fun x => Value.int .i64 (wp ms pr t x)) (j + 1) j = .int .i64 (wp ms pr (t + 1) j) by simp [mid], HW.out] at this
                      exact this
                    have HPC : Hid (∀ i, i < N → W5.drew.cell? ⟨pb, po + i, none⟩ = some (.int .i64 (pr i))) := fun i hi => by
                      have hcw : Chg No w W5 := (HCW.out.trans HC2.out).over HC5.out (fun b h => by have := HD.out; omega)
                      have := hcw.cell (p := ⟨pb, po + i, none⟩) (cell_lt (HPW.out i hi)) (fun h => h)
                      exact this.trans (HPW.out i hi)
                    have hge : decide ((cntE pr (pr j) N : Int) ≤ 0) = false := by simp; omega
                    refine wp_region_S (fun W => W.cell? ⟨db, 0 + j, none⟩ = some (.int .i64 (0))) [0, 1, 2, 3, 4, 5, 7] (by kernel_rfl) ?_
                    refine wpAnyS_take 0 (.slice (some ⟨db, 0, none⟩) N N) rfl (by kernel_rfl) (by kernel_rfl) (by kernel_rfl) (by kernel_rfl) (fun _ _ _ h => h) (by rfl) HS9 (fun _ _ => rfl) ?_
                    simp only [Act.put, List.setIfInBounds_toArray, List.set_cons_zero, List.set_cons_succ]
                    refine wpAnyS_take 1 (.int .i64 (j : Int)) rfl (by kernel_rfl) (by kernel_rfl) (by kernel_rfl) (by kernel_rfl) (fun _ _ _ h => h) (by rfl) HS9 (fun _ _ => rfl) ?_
                    simp only [Act.put, List.setIfInBounds_toArray, List.set_cons_zero, List.set_cons_succ]
                    refine wpAnyS_take 2 (.pointer (some ⟨db, 0 + j, none⟩)) rfl (by kernel_rfl) (by kernel_rfl) (by kernel_rfl) (by kernel_rfl) (fun _ _ _ h => h) (by rfl) HS9 (fun _ _ => run_index23 rfl rfl rfl hjN) ?_
                    simp only [Act.put, List.setIfInBounds_toArray, List.set_cons_zero, List.set_cons_succ]
                    refine wpAnyS_take 3 (.int .i64 (0)) rfl (by kernel_rfl) (by kernel_rfl) (by kernel_rfl) (by kernel_rfl) (fun _ _ _ h => h) (by rfl) HS9 (fun _ h => run_load3 rfl rfl h) ?_
                    simp only [Act.put, List.setIfInBounds_toArray, List.set_cons_zero, List.set_cons_succ]
                    refine wpAnyS_take 4 (.slice (some ⟨pb, po, none⟩) N c2) rfl (by kernel_rfl) (by kernel_rfl) (by kernel_rfl) (by kernel_rfl) (fun _ _ _ h => h) (by rfl) HS9 (fun _ _ => rfl) ?_
                    simp only [Act.put, List.setIfInBounds_toArray, List.set_cons_zero, List.set_cons_succ]
                    refine wpAnyS_take 5 (.int .i64 (j : Int)) rfl (by kernel_rfl) (by kernel_rfl) (by kernel_rfl) (by kernel_rfl) (fun _ _ _ h => h) (by rfl) HS9 (fun _ _ => rfl) ?_
                    simp only [Act.put, List.setIfInBounds_toArray, List.set_cons_zero, List.set_cons_succ]
                    refine wpAnyS_one 6 rfl (by kernel_rfl) (by rfl) ?_
                    refine wp_callF 53 Yapd.func53 rfl (by kernel_rfl) [.slice (some ⟨pb, po, none⟩) N c2, .int .i64 (j : Int)] rfl rfl (fun v w' => v = .int .i64 (cntE pr (pr j) N : Int) ∧ Chg No W5.drew w')
                      ((equals_any W5.drew N hN pb po c2 pr HPC j hjN).mono fun e w' h => ⟨_, h.1, rfl, h.2⟩) ?_
                    rintro v W6 ⟨rfl, C6⟩
                    have HS10 : W6.cell? ⟨db, 0 + j, none⟩ = some (.int .i64 (0)) := by
                      rw [C6.cell (p := ⟨db, 0 + j, none⟩) (cell_lt HS9) (fun h => h)]; exact HS9
                    have HR6 : Hid (RowV W6 db N (mid (fun x => .int .i64 (wp ms pr (t + 1) x)) (fun x => .int .i64 (wp ms pr t x)) (j + 1))) := RowV.chg (w := W5.drew) HR5.out C6 (fun h => h)
                    have HC6 : Hid (Chg (fun b => b = db) W2 W6) := HC5.out.drew.trans (C6.mono fun _ h => h.elim)
                    clear HS9 C6 HPC HR5 HC5
                    have HS9 := HS10
                    clear HS10
                    refine ⟨.inr HS9, ?_⟩
                    simp only [Act.put, List.setIfInBounds_toArray, List.set_cons_zero, List.set_cons_succ]
                    refine wpAnyS_take 7 (.bool false) rfl (by kernel_rfl) (by kernel_rfl) (by kernel_rfl) (by kernel_rfl) (fun _ _ _ h => h) (by rfl) HS9 (fun _ _ => run_geq3 rfl rfl rfl hge) ?_
                    simp only [Act.put, List.setIfInBounds_toArray, List.set_cons_zero, List.set_cons_succ]
                    refine wpAnyS_done (by kernel_rfl) ?_
                    go_wp2_with fail
                    go_roundw
                    case rel => exact ⟨j + 1, by omega, by go_num, HR6, HC6⟩
                    case measure => simp [intOf]; omega
                  · have hs' : (m.st j == 0) = false := by simp [hst]
                    have HST : Hid (¬ m.st j = 0) := hst
                    clear hst
                    have HW : Hid (wp ms pr (t + 1) j = -1) := by unfold Hid; rw [HS.out, HZ.out, wsp]; rw [if_neg HRC.out, if_neg (by omega), if_neg HST.out]
                    have h4 := H4.out
                    rw [HW.out] at h4
                    go_wp2_with fail
                    go_quiet (fail)
                    go_wp2_with fail
                    have R5 : RowV (wr.drewN nq) db N (mid (fun x => .int .i64 (wp ms pr (t + 1) x)) (fun x => .int .i64 (wp ms pr t x)) (j + 1)) := by rw [← mid_keep (by rw [HW.out, HZ.out])]; exact HRJ.out
                    have C5 : Chg (fun b => b = db) W2 (wr.drewN nq) := (HCJ.out.drewN _)
                    generalize (wr.drewN nq) = W5 at *
                    have HR5 : Hid (RowV W5 db N (mid (fun x => .int .i64 (wp ms pr (t + 1) x)) (fun x => .int .i64 (wp ms pr t x)) (j + 1))) := R5
                    have HC5 : Hid (Chg (fun b => b = db) W2 W5) := C5
                    clear R5 C5
                    have HS9 : W5.drew.cell? ⟨db, 0 + j, none⟩ = some (.int .i64 (-1)) := by
                      rw [Nat.zero_add]
                      have := HR5.out.cell hjN
                      rw [show mid (fun x => Value.int .i64 (wp ms pr (t + 1) x)) (fun x => Value.int .i64 (wp ms pr t x)) (j + 1) j = .int .i64 (wp ms pr (t + 1) j) by simp [mid], HW.out] at this
                      exact this
                    have HPC : Hid (∀ i, i < N → W5.drew.cell? ⟨pb, po + i, none⟩ = some (.int .i64 (pr i))) := fun i hi => by
                      have hcw : Chg No w W5 := (HCW.out.trans HC2.out).over HC5.out (fun b h => by have := HD.out; omega)
                      have := hcw.cell (p := ⟨pb, po + i, none⟩) (cell_lt (HPW.out i hi)) (fun h => h)
                      exact this.trans (HPW.out i hi)
                    have hge : decide ((cntE pr (pr j) N : Int) ≤ -1) = false := by simp; omega
                    refine wp_region_S (fun W => W.cell? ⟨db, 0 + j, none⟩ = some (.int .i64 (-1))) [0, 1, 2, 3, 4, 5, 7] (by kernel_rfl) ?_
                    refine wpAnyS_take 0 (.slice (some ⟨db, 0, none⟩) N N) rfl (by kernel_rfl) (by kernel_rfl) (by kernel_rfl) (by kernel_rfl) (fun _ _ _ h => h) (by rfl) HS9 (fun _ _ => rfl) ?_
                    simp only [Act.put, List.setIfInBounds_toArray, List.set_cons_zero, List.set_cons_succ]
                    refine wpAnyS_take 1 (.int .i64 (j : Int)) rfl (by kernel_rfl) (by kernel_rfl) (by kernel_rfl) (by kernel_rfl) (fun _ _ _ h => h) (by rfl) HS9 (fun _ _ => rfl) ?_
                    simp only [Act.put, List.setIfInBounds_toArray, List.set_cons_zero, List.set_cons_succ]
                    refine wpAnyS_take 2 (.pointer (some ⟨db, 0 + j, none⟩)) rfl (by kernel_rfl) (by kernel_rfl) (by kernel_rfl) (by kernel_rfl) (fun _ _ _ h => h) (by rfl) HS9 (fun _ _ => run_index23 rfl rfl rfl hjN) ?_
                    simp only [Act.put, List.setIfInBounds_toArray, List.set_cons_zero, List.set_cons_succ]
                    refine wpAnyS_take 3 (.int .i64 (-1)) rfl (by kernel_rfl) (by kernel_rfl) (by kernel_rfl) (by kernel_rfl) (fun _ _ _ h => h) (by rfl) HS9 (fun _ h => run_load3 rfl rfl h) ?_
                    simp only [Act.put, List.setIfInBounds_toArray, List.set_cons_zero, List.set_cons_succ]
                    refine wpAnyS_take 4 (.slice (some ⟨pb, po, none⟩) N c2) rfl (by kernel_rfl) (by kernel_rfl) (by kernel_rfl) (by kernel_rfl) (fun _ _ _ h => h) (by rfl) HS9 (fun _ _ => rfl) ?_
                    simp only [Act.put, List.setIfInBounds_toArray, List.set_cons_zero, List.set_cons_succ]
                    refine wpAnyS_take 5 (.int .i64 (j : Int)) rfl (by kernel_rfl) (by kernel_rfl) (by kernel_rfl) (by kernel_rfl) (fun _ _ _ h => h) (by rfl) HS9 (fun _ _ => rfl) ?_
                    simp only [Act.put, List.setIfInBounds_toArray, List.set_cons_zero, List.set_cons_succ]
                    refine wpAnyS_one 6 rfl (by kernel_rfl) (by rfl) ?_
                    refine wp_callF 53 Yapd.func53 rfl (by kernel_rfl) [.slice (some ⟨pb, po, none⟩) N c2, .int .i64 (j : Int)] rfl rfl (fun v w' => v = .int .i64 (cntE pr (pr j) N : Int) ∧ Chg No W5.drew w')
                      ((equals_any W5.drew N hN pb po c2 pr HPC j hjN).mono fun e w' h => ⟨_, h.1, rfl, h.2⟩) ?_
                    rintro v W6 ⟨rfl, C6⟩
                    have HS10 : W6.cell? ⟨db, 0 + j, none⟩ = some (.int .i64 (-1)) := by
                      rw [C6.cell (p := ⟨db, 0 + j, none⟩) (cell_lt HS9) (fun h => h)]; exact HS9
                    have HR6 : Hid (RowV W6 db N (mid (fun x => .int .i64 (wp ms pr (t + 1) x)) (fun x => .int .i64 (wp ms pr t x)) (j + 1))) := RowV.chg (w := W5.drew) HR5.out C6 (fun h => h)
                    have HC6 : Hid (Chg (fun b => b = db) W2 W6) := HC5.out.drew.trans (C6.mono fun _ h => h.elim)
                    clear HS9 C6 HPC HR5 HC5
                    have HS9 := HS10
                    clear HS10
                    refine ⟨.inr HS9, ?_⟩
                    simp only [Act.put, List.setIfInBounds_toArray, List.set_cons_zero, List.set_cons_succ]
                    refine wpAnyS_take 7 (.bool false) rfl (by kernel_rfl) (by kernel_rfl) (by kernel_rfl) (by kernel_rfl) (fun _ _ _ h => h) (by rfl) HS9 (fun _ _ => run_geq3 rfl rfl rfl hge) ?_
                    simp only [Act.put, List.setIfInBounds_toArray, List.set_cons_zero, List.set_cons_succ]
                    refine wpAnyS_done (by kernel_rfl) ?_
                    go_wp2_with fail
                    go_roundw
                    case rel => exact ⟨j + 1, by omega, by go_num, HR6, HC6⟩
                    case measure => simp [intOf]; omega
              · have HRC : Hid ((j : Int) = m.p ∨ (m.kd = 7 ∧ m.a = (j : Int))) := .inr ⟨by simpa using hx2, by simpa using hx3⟩
                clear hx1K
                by_cases hst : m.st j = 0
                · have HST : Hid (m.st j = 0) := hst
                  rw [hst] at s1
                  clear hst
                  have HW : Hid (wp ms pr (t + 1) j = 0) := by unfold Hid; rw [HS.out, HZ.out, wsp]; rw [if_pos HRC.out, if_pos HST.out]
                  have h4 := H4.out
                  rw [HW.out] at h4
                  go_wp2_with fail
                  go_quiet (fail)
                  go_wp2_with fail
                  have R5 : RowV (((wr.setCell ⟨db, j, none⟩ (.int .i64 (-1))).drewN nq).setCell ⟨db, j, none⟩ (.int .i64 0)) db N (mid (fun x => .int .i64 (wp ms pr (t + 1) x)) (fun x => .int .i64 (wp ms pr t x)) (j + 1)) := by rw [← mid_store (v := .int .i64 0) (by rw [HW.out])]; exact updV_two _ _ _ _ ▸ RowV.set (w := (wr.setCell ⟨db, j, none⟩ (.int .i64 (-1))).drewN nq) (HRJ.out.set j (.int .i64 (-1))) j _
                  have C5 : Chg (fun b => b = db) W2 (((wr.setCell ⟨db, j, none⟩ (.int .i64 (-1))).drewN nq).setCell ⟨db, j, none⟩ (.int .i64 0)) := (((HCJ.out.setCell (.inl rfl) _).drewN _).setCell (.inl rfl) _)
                  generalize (((wr.setCell ⟨db, j, none⟩ (.int .i64 (-1))).drewN nq).setCell ⟨db, j, none⟩ (.int .i64 0)) = W5 at *
                  have HR5 : Hid (RowV W5 db N (mid (fun x => .int .i64 (wp ms pr (t + 1) x)) (fun x => .int .i64 (wp ms pr t x)) (j + 1))) := R5
                  have HC5 : Hid (Chg (fun b => b = db) W2 W5) := C5
                  clear R5 C5
                  have HS9 : W5.drew.cell? ⟨db, 0 + j, none⟩ = some (.int .i64 (0)) := by
                    rw [Nat.zero_add]
                    have := HR5.out.cell hjN
                    rw [show mid (fun x => Value.int .i64 (wp ms pr (t + 1) x)) (fun x => Value.int .i64 (wp ms pr t x)) (j + 1) j = .int .i64 (wp ms pr (t + 1) j) by simp [mid], HW.out] at this
                    exact this
                  have HPC : Hid (∀ i, i < N → W5.drew.cell? ⟨pb, po + i, none⟩ = some (.int .i64 (pr i))) := fun i hi => by
                    have hcw : Chg No w W5 := (HCW.out.trans HC2.out).over HC5.out (fun b h => by have := HD.out; omega)
                    have := hcw.cell (p := ⟨pb, po + i, none⟩) (cell_lt (HPW.out i hi)) (fun h => h)
                    exact this.trans (HPW.out i hi)
                  have hge : decide ((cntE pr (pr j) N : Int) ≤ 0) = false := by simp; omega
                  refine wp_region_S (fun W => W.cell? ⟨db, 0 + j, none⟩ = some (.int .i64 (0))) [0, 1, 2, 3, 4, 5, 7] (by kernel_rfl) ?_
                  refine wpAnyS_take 0 (.slice (some ⟨db, 0, none⟩) N N) rfl (by kernel_rfl) (by kernel_rfl) (by kernel_rfl) (by kernel_rfl) (fun _ _ _ h => h) (by rfl) HS9 (fun _ _ => rfl) ?_
                  simp only [Act.put, List.setIfInBounds_toArray, List.set_cons_zero, List.set_cons_succ]
                  refine wpAnyS_take 1 (.int .i64 (j : Int)) rfl (by kernel_rfl) (by kernel_rfl) (by kernel_rfl) (by kernel_rfl) (fun _ _ _ h => h) (by rfl) HS9 (fun _ _ => rfl) ?_
                  simp only [Act.put, List.setIfInBounds_toArray, List.set_cons_zero, List.set_cons_succ]
                  refine wpAnyS_take 2 (.pointer (some ⟨db, 0 + j, none⟩)) rfl (by kernel_rfl) (by kernel_rfl) (by kernel_rfl) (by kernel_rfl) (fun _ _ _ h => h) (by rfl) HS9 (fun _ _ => run_index23 rfl rfl rfl hjN) ?_
                  simp only [Act.put, List.setIfInBounds_toArray, List.set_cons_zero, List.set_cons_succ]
                  refine wpAnyS_take 3 (.int .i64 (0)) rfl (by kernel_rfl) (by kernel_rfl) (by kernel_rfl) (by kernel_rfl) (fun _ _ _ h => h) (by rfl) HS9 (fun _ h => run_load3 rfl rfl h) ?_
                  simp only [Act.put, List.setIfInBounds_toArray, List.set_cons_zero, List.set_cons_succ]
                  refine wpAnyS_take 4 (.slice (some ⟨pb, po, none⟩) N c2) rfl (by kernel_rfl) (by kernel_rfl) (by kernel_rfl) (by kernel_rfl) (fun _ _ _ h => h) (by rfl) HS9 (fun _ _ => rfl) ?_
                  simp only [Act.put, List.setIfInBounds_toArray, List.set_cons_zero, List.set_cons_succ]
                  refine wpAnyS_take 5 (.int .i64 (j : Int)) rfl (by kernel_rfl) (by kernel_rfl) (by kernel_rfl) (by kernel_rfl) (fun _ _ _ h => h) (by rfl) HS9 (fun _ _ => rfl) ?_
                  simp only [Act.put, List.setIfInBounds_toArray, List.set_cons_zero, List.set_cons_succ]
                  refine wpAnyS_one 6 rfl (by kernel_rfl) (by rfl) ?_
                  refine wp_callF 53 Yapd.func53 rfl (by kernel_rfl) [.slice (some ⟨pb, po, none⟩) N c2, .int .i64 (j : Int)] rfl rfl (fun v w' => v = .int .i64 (cntE pr (pr j) N : Int) ∧ Chg No W5.drew w')
                    ((equals_any W5.drew N hN pb po c2 pr HPC j hjN).mono fun e w' h => ⟨_, h.1, rfl, h.2⟩) ?_
                  rintro v W6 ⟨rfl, C6⟩
                  have HS10 : W6.cell? ⟨db, 0 + j, none⟩ = some (.int .i64 (0)) := by
                    rw [C6.cell (p := ⟨db, 0 + j, none⟩) (cell_lt HS9) (fun h => h)]; exact HS9
                  have HR6 : Hid (RowV W6 db N (mid (fun x => .int .i64 (wp ms pr (t + 1) x)) (fun x => .int .i64 (wp ms pr t x)) (j + 1))) := RowV.chg (w := W5.drew) HR5.out C6 (fun h => h)
                  have HC6 : Hid (Chg (fun b => b = db) W2 W6) := HC5.out.drew.trans (C6.mono fun _ h => h.elim)
                  clear HS9 C6 HPC HR5 HC5
                  have HS9 := HS10
                  clear HS10
                  refine ⟨.inr HS9, ?_⟩
                  simp only [Act.put, List.setIfInBounds_toArray, List.set_cons_zero, List.set_cons_succ]
                  refine wpAnyS_take 7 (.bool false) rfl (by kernel_rfl) (by kernel_rfl) (by kernel_rfl) (by kernel_rfl) (fun _ _ _ h => h) (by rfl) HS9 (fun _ _ => run_geq3 rfl rfl rfl hge) ?_
                  simp only [Act.put, List.setIfInBounds_toArray, List.set_cons_zero, List.set_cons_succ]
                  refine wpAnyS_done (by kernel_rfl) ?_
                  go_wp2_with fail
                  go_roundw
                  case rel => exact ⟨j + 1, by omega, by go_num, HR6, HC6⟩
                  case measure => simp [intOf]; omega
                · have hs' : (m.st j == 0) = false := by simp [hst]
                  have HST : Hid (¬ m.st j = 0) := hst
                  clear hst
                  have HW : Hid (wp ms pr (t + 1) j = -1) := by unfold Hid; rw [HS.out, HZ.out, wsp]; rw [if_pos HRC.out, if_neg HST.out]
                  have h4 := H4.out
                  rw [HW.out] at h4
                  go_wp2_with fail
                  go_quiet (fail)
                  go_wp2_with fail
                  have R5 : RowV ((wr.setCell ⟨db, j, none⟩ (.int .i64 (-1))).drewN nq) db N (mid (fun x => .int .i64 (wp ms pr (t + 1) x)) (fun x => .int .i64 (wp ms pr t x)) (j + 1)) := by rw [← mid_store (v := .int .i64 (-1)) (by rw [HW.out])]; exact HRJ.out.set j _
                  have C5 : Chg (fun b => b = db) W2 ((wr.setCell ⟨db, j, none⟩ (.int .i64 (-1))).drewN nq) := ((HCJ.out.setCell (.inl rfl) _).drewN _)
                  generalize ((wr.setCell ⟨db, j, none⟩ (.int .i64 (-1))).drewN nq) = W5 at *
                  have HR5 : Hid (RowV W5 db N (mid (fun x => .int .i64 (wp ms pr (t + 1) x)) (fun x => .int .i64 (wp ms pr t x)) (j + 1))) := R5
                  have HC5 : Hid (Chg (fun b => b = db) W2 W5) := C5
                  clear R5 C5
                  have HS9 : W5.drew.cell? ⟨db, 0 + j, none⟩ = some (.int .i64 (-1)) := by
                    rw [Nat.zero_add]
                    have := HR5.out.cell hjN
                    rw [show mid (fun x => Value.int .i64 (wp ms pr (t + 1) x)) (fun x => Value.int .i64 (wp ms pr t x)) (j + 1) j = .int .i64 (wp ms pr (t + 1) j) by simp [mid], HW.out] at this
                    exact this
                  have HPC : Hid (∀ i, i < N → W5.drew.cell? ⟨pb, po + i, none⟩ = some (.int .i64 (pr i))) := fun i hi => by
                    have hcw : Chg No w W5 := (HCW.out.trans HC2.out).over HC5.out (fun b h => by have := HD.out; omega)
                    have := hcw.cell (p := ⟨pb, po + i, none⟩) (cell_lt (HPW.out i hi)) (fun h => h)
                    exact this.trans (HPW.out i hi)
                  have hge : decide ((cntE pr (pr j) N : Int) ≤ -1) = false := by simp; omega
                  refine wp_region_S (fun W => W.cell? ⟨db, 0 + j, none⟩ = some (.int .i64 (-1))) [0, 1, 2, 3, 4, 5, 7] (by kernel_rfl) ?_
                  refine wpAnyS_take 0 (.slice (some ⟨db, 0, none⟩) N N) rfl (by kernel_rfl) (by kernel_rfl) (by kernel_rfl) (by kernel_rfl) (fun _ _ _ h => h) (by rfl) HS9 (fun _ _ => rfl) ?_
                  simp only [Act.put, List.setIfInBounds_toArray, List.set_cons_zero, List.set_cons_succ]
                  refine wpAnyS_take 1 (.int .i64 (j : Int)) rfl (by kernel_rfl) (by kernel_rfl) (by kernel_rfl) (by kernel_rfl) (fun _ _ _ h => h) (by rfl) HS9 (fun _ _ => rfl) ?_
                  simp only [Act.put, List.setIfInBounds_toArray, List.set_cons_zero, List.set_cons_succ]
                  refine wpAnyS_take 2 (.pointer (some ⟨db, 0 + j, none⟩)) rfl (by kernel_rfl) (by kernel_rfl) (by kernel_rfl) (by kernel_rfl) (fun _ _ _ h => h) (by rfl) HS9 (fun _ _ => run_index23 rfl rfl rfl hjN) ?_
                  simp only [Act.put, List.setIfInBounds_toArray, List.set_cons_zero, List.set_cons_succ]
                  refine wpAnyS_take 3 (.int .i64 (-1)) rfl (by kernel_rfl) (by kernel_rfl) (by kernel_rfl) (by kernel_rfl) (fun _ _ _ h => h) (by rfl) HS9 (fun _ h => run_load3 rfl rfl h) ?_
                  simp only [Act.put, List.setIfInBounds_toArray, List.set_cons_zero, List.set_cons_succ]
                  refine wpAnyS_take 4 (.slice (some ⟨pb, po, none⟩) N c2) rfl (by kernel_rfl) (by kernel_rfl) (by kernel_rfl) (by kernel_rfl) (fun _ _ _ h => h) (by rfl) HS9 (fun _ _ => rfl) ?_
                  simp only [Act.put, List.setIfInBounds_toArray, List.set_cons_zero, List.set_cons_succ]
                  refine wpAnyS_take 5 (.int .i64 (j : Int)) rfl (by kernel_rfl) (by kernel_rfl) (by kernel_rfl) (by kernel_rfl) (fun _ _ _ h => h) (by rfl) HS9 (fun _ _ => rfl) ?_
                  simp only [Act.put, List.setIfInBounds_toArray, List.set_cons_zero, List.set_cons_succ]
                  refine wpAnyS_one 6 rfl (by kernel_rfl) (by rfl) ?_
                  refine wp_callF 53 Yapd.func53 rfl (by kernel_rfl) [.slice (some ⟨pb, po, none⟩) N c2, .int .i64 (j : Int)] rfl rfl (fun v w' => v = .int .i64 (cntE pr (pr j) N : Int) ∧ Chg No W5.drew w')
                    ((equals_any W5.drew N hN pb po c2 pr HPC j hjN).mono fun e w' h => ⟨_, h.1, rfl, h.2⟩) ?_
                  rintro v W6 ⟨rfl, C6⟩
                  have HS10 : W6.cell? ⟨db, 0 + j, none⟩ = some (.int .i64 (-1)) := by
                    rw [C6.cell (p := ⟨db, 0 + j, none⟩) (cell_lt HS9) (fun h => h)]; exact HS9
                  have HR6 : Hid (RowV W6 db N (mid (fun x => .int .i64 (wp ms pr (t + 1) x)) (fun x => .int .i64 (wp ms pr t x)) (j + 1))) := RowV.chg (w := W5.drew) HR5.out C6 (fun h => h)
                  have HC6 : Hid (Chg (fun b => b = db) W2 W6) := HC5.out.drew.trans (C6.mono fun _ h => h.elim)
                  clear HS9 C6 HPC HR5 HC5
                  have HS9 := HS10
                  clear HS10
                  refine ⟨.inr HS9, ?_⟩
                  simp only [Act.put, List.setIfInBounds_toArray, List.set_cons_zero, List.set_cons_succ]
                  refine wpAnyS_take 7 (.bool false) rfl (by kernel_rfl) (by kernel_rfl) (by kernel_rfl) (by kernel_rfl) (fun _ _ _ h => h) (by rfl) HS9 (fun _ _ => run_geq3 rfl rfl rfl hge) ?_
                  simp only [Act.put, List.setIfInBounds_toArray, List.set_cons_zero, List.set_cons_succ]
                  refine wpAnyS_done (by kernel_rfl) ?_
                  go_wp2_with fail
                  go_roundw
                  case rel => exact ⟨j + 1, by omega, by go_num, HR6, HC6⟩
                  case measure => simp [intOf]; omega
          · have HRC : Hid ((j : Int) = m.p ∨ (m.kd = 7 ∧ m.a = (j : Int))) := .inl (by rw [HPP.out]; simpa using hx1)
            clear hx1K
            by_cases hst : m.st j = 0
            · have HST : Hid (m.st j = 0) := hst
              rw [hst] at s1
              clear hst
              have HW : Hid (wp ms pr (t + 1) j = 0) := by unfold Hid; rw [HS.out, HZ.out, wsp]; rw [if_pos HRC.out, if_pos HST.out]
              have h4 := H4.out
              rw [HW.out] at h4
              go_wp2_with fail
              go_quiet (fail)
              go_wp2_with fail
              have R5 : RowV (((wr.setCell ⟨db, j, none⟩ (.int .i64 (-1))).drewN nq).setCell ⟨db, j, none⟩ (.int .i64 0)) db N (mid (fun x => .int .i64 (wp ms pr (t + 1) x)) (fun x => .int .i64 (wp ms pr t x)) (j + 1)) := by rw [← mid_store (v := .int .i64 0) (by rw [HW.out])]; exact updV_two _ _ _ _ ▸ RowV.set (w := (wr.setCell ⟨db, j, none⟩ (.int .i64 (-1))).drewN nq) (HRJ.out.set j (.int .i64 (-1))) j _
              have C5 : Chg (fun b => b = db) W2 (((wr.setCell ⟨db, j, none⟩ (.int .i64 (-1))).drewN nq).setCell ⟨db, j, none⟩ (.int .i64 0)) := (((HCJ.out.setCell (.inl rfl) _).drewN _).setCell (.inl rfl) _)
              generalize (((wr.setCell ⟨db, j, none⟩ (.int .i64 (-1))).drewN nq).setCell ⟨db, j, none⟩ (.int .i64 0)) = W5 at *
              have HR5 : Hid (RowV W5 db N (mid (fun x => .int .i64 (wp ms pr (t + 1) x)) (fun x => .int .i64 (wp ms pr t x)) (j + 1))) := R5
              have HC5 : Hid (Chg (fun b => b = db) W2 W5) := C5
              clear R5 C5
              have HS9 : W5.drew.cell? ⟨db, 0 + j, none⟩ = some (.int .i64 (0)) := by
                rw [Nat.zero_add]
                have := HR5.out.cell hjN
                rw [show mid (fun x => Value.int .i64 (wp ms pr (t + 1) x)) (fun x => Value.int .i64 (wp ms pr t x)) (j + 1) j = .int .i64 (wp ms pr (t + 1) j) by simp [mid], HW.out] at this
                exact this
              have HPC : Hid (∀ i, i < N → W5.drew.cell? ⟨pb, po + i, none⟩ = some (.int .i64 (pr i))) := fun i hi => by
                have hcw : Chg No w W5 := (HCW.out.trans HC2.out).over HC5.out (fun b h => by have := HD.out; omega)
                have := hcw.cell (p := ⟨pb, po + i, none⟩) (cell_lt (HPW.out i hi)) (fun h => h)
                exact this.trans (HPW.out i hi)
              have hge : decide ((cntE pr (pr j) N : Int) ≤ 0) = false := by simp; omega
              refine wp_region_S (fun W => W.cell? ⟨db, 0 + j, none⟩ = some (.int .i64 (0))) [0, 1, 2, 3, 4, 5, 7] (by kernel_rfl) ?_
              refine wpAnyS_take 0 (.slice (some ⟨db, 0, none⟩) N N) rfl (by kernel_rfl) (by kernel_rfl) (by kernel_rfl) (by kernel_rfl) (fun _ _ _ h => h) (by rfl) HS9 (fun _ _ => rfl) ?_
              simp only [Act.put, List.setIfInBounds_toArray, List.set_cons_zero, List.set_cons_succ]
              refine wpAnyS_take 1 (.int .i64 (j : Int)) rfl (by kernel_rfl) (by kernel_rfl) (by kernel_rfl) (by kernel_rfl) (fun _ _ _ h => h) (by rfl) HS9 (fun _ _ => rfl) ?_
              simp only [Act.put, List.setIfInBounds_toArray, List.set_cons_zero, List.set_cons_succ]
              refine wpAnyS_take 2 (.pointer (some ⟨db, 0 + j, none⟩)) rfl (by kernel_rfl) (by kernel_rfl) (by kernel_rfl) (by kernel_rfl) (fun _ _ _ h => h) (by rfl) HS9 (fun _ _ => run_index23 rfl rfl rfl hjN) ?_
              simp only [Act.put, List.setIfInBounds_toArray, List.set_cons_zero, List.set_cons_succ]
              refine wpAnyS_take 3 (.int .i64 (0)) rfl (by kernel_rfl) (by kernel_rfl) (by kernel_rfl) (by kernel_rfl) (fun _ _ _ h => h) (by rfl) HS9 (fun _ h => run_load3 rfl rfl h) ?_
              simp only [Act.put, List.setIfInBounds_toArray, List.set_cons_zero, List.set_cons_succ]
              refine wpAnyS_take 4 (.slice (some ⟨pb, po, none⟩) N c2) rfl (by kernel_rfl) (by kernel_rfl) (by kernel_rfl) (by kernel_rfl) (fun _ _ _ h => h) (by rfl) HS9 (fun _ _ => rfl) ?_
              simp only [Act.put, List.setIfInBounds_toArray, List.set_cons_zero, List.set_cons_succ]
              refine wpAnyS_take 5 (.int .i64 (j : Int)) rfl (by kernel_rfl) (by kernel_rfl) (by kernel_rfl) (by kernel_rfl) (fun _ _ _ h => h) (by rfl) HS9 (fun _ _ => rfl) ?_
              simp only [Act.put, List.setIfInBounds_toArray, List.set_cons_zero, List.set_cons_succ]
              refine wpAnyS_one 6 rfl (by kernel_rfl) (by rfl) ?_
              refine wp_callF 53 Yapd.func53 rfl (by kernel_rfl) [.slice (some ⟨pb, po, none⟩) N c2, .int .i64 (j : Int)] rfl rfl (fun v w' => v = .int .i64 (cntE pr (pr j) N : Int) ∧ Chg No W5.drew w')
                ((equals_any W5.drew N hN pb po c2 pr HPC j hjN).mono fun e w' h => ⟨_, h.1, rfl, h.2⟩) ?_
              rintro v W6 ⟨rfl, C6⟩
              have HS10 : W6.cell? ⟨db, 0 + j, none⟩ = some (.int .i64 (0)) := by
                rw [C6.cell (p := ⟨db, 0 + j, none⟩) (cell_lt HS9) (fun h => h)]; exact HS9
              have HR6 : Hid (RowV W6 db N (mid (fun x => .int .i64 (wp ms pr (t + 1) x)) (fun x => .int .i64 (wp ms pr t x)) (j + 1))) := RowV.chg (w := W5.drew) HR5.out C6 (fun h => h)
              have HC6 : Hid (Chg (fun b => b = db) W2 W6) := HC5.out.drew.trans (C6.mono fun _ h => h.elim)
              clear HS9 C6 HPC HR5 HC5
              have HS9 := HS10
              clear HS10
              refine ⟨.inr HS9, ?_⟩
              simp only [Act.put, List.setIfInBounds_toArray, List.set_cons_zero, List.set_cons_succ]
              refine wpAnyS_take 7 (.bool false) rfl (by kernel_rfl) (by kernel_rfl) (by kernel_rfl) (by kernel_rfl) (fun _ _ _ h => h) (by rfl) HS9 (fun _ _ => run_geq3 rfl rfl rfl hge) ?_
              simp only [Act.put, List.setIfInBounds_toArray, List.set_cons_zero, List.set_cons_succ]
              refine wpAnyS_done (by kernel_rfl) ?_
              go_wp2_with fail
              go_roundw
              case rel => exact ⟨j + 1, by omega, by go_num, HR6, HC6⟩
              case measure => simp [intOf]; omega
            · have hs' : (m.st j == 0) = false := by simp [hst]
              have HST : Hid (¬ m.st j = 0) := hst
              clear hst
              have HW : Hid (wp ms pr (t + 1) j = -1) := by unfold Hid; rw [HS.out, HZ.out, wsp]; rw [if_pos HRC.out, if_neg HST.out]
              have h4 := H4.out
              rw [HW.out] at h4
              go_wp2_with fail
              go_quiet (fail)
              go_wp2_with fail
              have R5 : RowV ((wr.setCell ⟨db, j, none⟩ (.int .i64 (-1))).drewN nq) db N (mid (fun x => .int .i64 (wp ms pr (t + 1) x)) (fun x => .int .i64 (wp ms pr t x)) (j + 1)) := by rw [← mid_store (v := .int .i64 (-1)) (by rw [HW.out])]; exact HRJ.out.set j _
              have C5 : Chg (fun b => b = db) W2 ((wr.setCell ⟨db, j, none⟩ (.int .i64 (-1))).drewN nq) := ((HCJ.out.setCell (.inl rfl) _).drewN _)
              generalize ((wr.setCell ⟨db, j, none⟩ (.int .i64 (-1))).drewN nq) = W5 at *
              have HR5 : Hid (RowV W5 db N (mid (fun x => .int .i64 (wp ms pr (t + 1) x)) (fun x => .int .i64 (wp ms pr t x)) (j + 1))) := R5
              have HC5 : Hid (Chg (fun b => b = db) W2 W5) := C5
              clear R5 C5
              have HS9 : W5.drew.cell? ⟨db, 0 + j, none⟩ = some (.int .i64 (-1)) := by
                rw [Nat.zero_add]
                have := HR5.out.cell hjN
                rw [show mid (fun x => Value.int .i64 (wp ms pr (t + 1) x)) (fun x => Value.int .i64 (wp ms pr t x)) (j + 1) j = .int .i64 (wp ms pr (t + 1) j) by simp [mid], HW.out] at this
                exact this
              have HPC : Hid (∀ i, i < N → W5.drew.cell? ⟨pb, po + i, none⟩ = some (.int .i64 (pr i))) := fun i hi => by
                have hcw : Chg No w W5 := (HCW.out.trans HC2.out).over HC5.out (fun b h => by have := HD.out; omega)
                have := hcw.cell (p := ⟨pb, po + i, none⟩) (cell_lt (HPW.out i hi)) (fun h => h)
                exact this.trans (HPW.out i hi)
              have hge : decide ((cntE pr (pr j) N : Int) ≤ -1) = false := by simp; omega
              refine wp_region_S (fun W => W.cell? ⟨db, 0 + j, none⟩ = some (.int .i64 (-1))) [0, 1, 2, 3, 4, 5, 7] (by kernel_rfl) ?_
              refine wpAnyS_take 0 (.slice (some ⟨db, 0, none⟩) N N) rfl (by kernel_rfl) (by kernel_rfl) (by kernel_rfl) (by kernel_rfl) (fun _ _ _ h => h) (by rfl) HS9 (fun _ _ => rfl) ?_
              simp only [Act.put, List.setIfInBounds_toArray, List.set_cons_zero, List.set_cons_succ]
              refine wpAnyS_take 1 (.int .i64 (j : Int)) rfl (by kernel_rfl) (by kernel_rfl) (by kernel_rfl) (by kernel_rfl) (fun _ _ _ h => h) (by rfl) HS9 (fun _ _ => rfl) ?_
              simp only [Act.put, List.setIfInBounds_toArray, List.set_cons_zero, List.set_cons_succ]
              refine wpAnyS_take 2 (.pointer (some ⟨db, 0 + j, none⟩)) rfl (by kernel_rfl) (by kernel_rfl) (by kernel_rfl) (by kernel_rfl) (fun _ _ _ h => h) (by rfl) HS9 (fun _ _ => run_index23 rfl rfl rfl hjN) ?_
              simp only [Act.put, List.setIfInBounds_toArray, List.set_cons_zero, List.set_cons_succ]
              refine wpAnyS_take 3 (.int .i64 (-1)) rfl (by kernel_rfl) (by kernel_rfl) (by kernel_rfl) (by kernel_rfl) (fun _ _ _ h => h) (by rfl) HS9 (fun _ h => run_load3 rfl rfl h) ?_
              simp only [Act.put, List.setIfInBounds_toArray, List.set_cons_zero, List.set_cons_succ]
              refine wpAnyS_take 4 (.slice (some ⟨pb, po, none⟩) N c2) rfl (by kernel_rfl) (by kernel_rfl) (by kernel_rfl) (by kernel_rfl) (fun _ _ _ h => h) (by rfl) HS9 (fun _ _ => rfl) ?_
              simp only [Act.put, List.setIfInBounds_toArray, List.set_cons_zero, List.set_cons_succ]
              refine wpAnyS_take 5 (.int .i64 (j : Int)) rfl (by kernel_rfl) (by kernel_rfl) (by kernel_rfl) (by kernel_rfl) (fun _ _ _ h => h) (by rfl) HS9 (fun _ _ => rfl) ?_
              simp only [Act.put, List.setIfInBounds_toArray, List.set_cons_zero, List.set_cons_succ]
              refine wpAnyS_one 6 rfl (by kernel_rfl) (by rfl) ?_
              refine wp_callF 53 Yapd.func53 rfl (by kernel_rfl) [.slice (some ⟨pb, po, none⟩) N c2, .int .i64 (j : Int)] rfl rfl (fun v w' => v = .int .i64 (cntE pr (pr j) N : Int) ∧ Chg No W5.drew w')
                ((equals_any W5.drew N hN pb po c2 pr HPC j hjN).mono fun e w' h => ⟨_, h.1, rfl, h.2⟩) ?_
              rintro v W6 ⟨rfl, C6⟩
              have HS10 : W6.cell? ⟨db, 0 + j, none⟩ = some (.int .i64 (-1)) := by
                rw [C6.cell (p := ⟨db, 0 + j, none⟩) (cell_lt HS9) (fun h => h)]; exact HS9
              have HR6 : Hid (RowV W6 db N (mid (fun x => .int .i64 (wp ms pr (t + 1) x)) (fun x => .int .i64 (wp ms pr t x)) (j + 1))) := RowV.chg (w := W5.drew) HR5.out C6 (fun h => h)
              have HC6 : Hid (Chg (fun b => b = db) W2 W6) := HC5.out.drew.trans (C6.mono fun _ h => h.elim)
              clear HS9 C6 HPC HR5 HC5
              have HS9 := HS10
              clear HS10
              refine ⟨.inr HS9, ?_⟩
              simp only [Act.put, List.setIfInBounds_toArray, List.set_cons_zero, List.set_cons_succ]
              refine wpAnyS_take 7 (.bool false) rfl (by kernel_rfl) (by kernel_rfl) (by kernel_rfl) (by kernel_rfl) (fun _ _ _ h => h) (by rfl) HS9 (fun _ _ => run_geq3 rfl rfl rfl hge) ?_
              simp only [Act.put, List.setIfInBounds_toArray, List.set_cons_zero, List.set_cons_succ]
              refine wpAnyS_done (by kernel_rfl) ?_
              go_wp2_with fail
              go_roundw
              case rel => exact ⟨j + 1, by omega, by go_num, HR6, HC6⟩
              case measure => simp [intOf]; omega
        · have hje : N = j := by omega
          subst hje
          go_wp2_with fail
          go_roundw
          case rel => exact ⟨t + 1, by omega, by go_num, HRJ.out.full, (HC.out.trans (HC2.out.mono fun _ h => h.elim)).trans HCJ.out⟩
          case measure => simp [intOf]; omega
    · have hte : M = t := by omega
      subst hte
      go_wp2_with fail
      go_ret
      exact ⟨rfl, HC1.out.over HC.out (fun b h => by have := HD.out; omega)⟩
end Go.Proofs.Ygdapg
