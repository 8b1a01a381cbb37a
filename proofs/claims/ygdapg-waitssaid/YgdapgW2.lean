/-
  waits, WALKED.
-/
import Derived.Test.YgdapgW1
set_option linter.unusedSimpArgs false
set_option linter.unusedVariables false
namespace Go.Proofs.Ygdapg
open Go.RowKit

/-- acc before the i-th quantum, as the judges keep it. -/
def accAt (ms : List Mo) : Nat → Nat → Int
  | 0, _ => 0
  | i + 1, q => match ms[i]? with
    | some m => m.acc q
    | none => 0
theorem accAt_succ {ms : List Mo} {i : Nat} {m : Mo} (h : ms[i]? = some m) (q : Nat) : accAt ms (i + 1) q = m.acc q := by simp [accAt, h]
def WaitsOk (N : Nat) (ms : List Mo) : Prop := ∀ i m, ms[i]? = some m → (m.kd = 8 → ∃ p a : Nat, p < N ∧ a < N ∧ m.p = (p : Int) ∧ m.a = (a : Int) ∧ WaitedOk m (accAt ms i) p a) ∧ ∀ q, q < N → m.st q = 3 → ∀ j, j < N → m.st j = 2 → m.wo j ≠ 9 + (q : Int)

set_option maxRecDepth 100000 in
set_option maxHeartbeats 2000000 in
theorem waits_any (w : World) (B N : Nat) (V mv : Value) (X : Nat → Prop) (ms : List Mo) (cf : Nat → List Value) (H : Hid (HistAt B w V X N mv ms cf)) (hN : N ≤ 8) (M : Nat) (HM : Hid (ms.length = M)) (hM : M ≤ 256) (HK : Hid (WaitsOk N ms)) (h0 : Hid (0 < M → 0 < N)) (HV : Hid (∃ a m c, V = .slice a m c)) :
    Calls Yapd.prog 26 #[.agg #[.int .i64 (N : Int), .bool true, mv, V]] w fun e w' => e = .returned (.bool true) ∧ Chg No w w' := by
  obtain ⟨mq, nq, rfl⟩ : ∃ mq nq, mv = .slice mq M nq := by rw [← HM.out]; exact H.out.shape
  obtain ⟨qa, qm, qc, rfl⟩ := HV.out
  go_enter Yapd.func26, Yapd.ntmps26
  go_wp2_with fail
  have hb0 : (w.alloc (.cells #[.int .i64 (N : Int), .bool true, .slice mq M nq, .slice qa qm qc] 32)).heap[w.heap.size]? = some (.cells #[.int .i64 (N : Int), .bool true, .slice mq M nq, .slice qa qm qc] 32 (0, 0)) := heap_alloc_new' _ _
  have C0 : Chg No w (w.alloc (.cells #[.int .i64 (N : Int), .bool true, .slice mq M nq, .slice qa qm qc] 32)) := (Chg.refl _ _).alloc _
  generalize w.alloc (.cells #[.int .i64 (N : Int), .bool true, .slice mq M nq, .slice qa qm qc] 32) = W0 at *
  rw [make_ints W0 N N (Nat.le_refl _) (by omega)]
  simp only [Result.andThen_ok]
  go_wp2_with fail
  have R1 : RowV (W0.alloc (.cells (arr N fun _ => 0) 3)) W0.heap.size N (fun _ => .int .i64 0) := RowV.ints W0 N _
  have C1 : Chg No W0 (W0.alloc (.cells (arr N fun _ => 0) 3)) := (Chg.refl _ _).alloc _
  have hb1 : (W0.alloc (.cells (arr N fun _ => 0) 3)).heap[w.heap.size]? = some (.cells #[.int .i64 (N : Int), .bool true, .slice mq M nq, .slice qa qm qc] 32 (0, 0)) := by
    rw [C1.block _ (heap_lt hb0) (fun h => h)]; exact hb0
  generalize W0.alloc (.cells (arr N fun _ => 0) 3) = W1 at *
  have HB1 : Hid (W1.heap[w.heap.size]? = some (.cells #[.int .i64 (N : Int), .bool true, .slice mq M nq, .slice qa qm qc] 32 (0, 0))) := hb1
  have HC1 : Hid (Chg No w W1) := C0.trans C1
  have HR1 : Hid (∀ j, j < N → W1.cell? ⟨W0.heap.size, 0 + j, none⟩ = some (.int .i64 (accAt ms 0 j))) := fun j hj => by rw [Nat.zero_add]; exact R1.cell hj
  clear R1 C1 C0 hb0 hb1
  generalize W0.heap.size = db at *
  go_loopw [3, 4] (fun av i wr => ∃ t ab ao ac : Nat, t ≤ M ∧ i = .int .i64 t ∧ av = .slice (some ⟨ab, ao, none⟩) N ac ∧ Hid (∀ j, j < N → wr.cell? ⟨ab, ao + j, none⟩ = some (.int .i64 (accAt ms t j))) ∧ Hid (Chg No W1 wr)) (fun _ i _ => M - (intOf i).toNat)
  case atStart => exact ⟨0, db, 0, N, by omega, rfl, rfl, HR1, Chg.refl _ _⟩
  case round =>
    clear HR1
    obtain ⟨t, ab, ao, ac, ht, rfl, rfl, HR, HC⟩ := hrel
    have hbx : wr.heap[w.heap.size]? = some (.cells #[.int .i64 (N : Int), .bool true, .slice mq M nq, .slice qa qm qc] 32 (0, 0)) := by
      rw [HC.out.block _ (heap_lt HB1.out) (fun h => h)]; exact HB1.out
    have hx2 : wr.cell? ⟨w.heap.size, 2, none⟩ = some (.slice mq M nq) := by rw [cell_of hbx]; rfl
    have hxl : w.heap.size < wr.heap.size := heap_lt hbx
    clear hbx
    by_cases hlt : t < M
    · obtain ⟨m, hm⟩ : ∃ m, ms[t]? = some m := ⟨ms[t]'(by rw [HM.out]; exact hlt), by simp⟩
      have hN0 : 0 < N := h0.out (by omega)
      obtain ⟨g, cap, b1, o1, c1, b2, o2, c2, b3, o3, c3, b4, o4, c4, a5, c5, a6, c6, he, mv0⟩ := H.out.view hN0 hm
      obtain ⟨rfl, -, rfl⟩ : mq = some ⟨g, 0, none⟩ ∧ M = ms.length ∧ nq = cap := by simpa using he
      have HMV : Hid (MV w N m g t b1 o1 c1 b2 o2 c2 b3 o3 c3 b4 o4 c4 a5 c5 a6 c6) := mv0
      have HCW : Hid (Chg No w wr) := HC1.out.trans HC.out
      have mv1 := mv0.chg HCW.out
      have d0 := mv1.d0
      have d1 := mv1.d1
      have d2 := mv1.d2
      have d3 := mv1.d3
      have d4 := mv1.d4
      have d5 := mv1.d5
      have d6 := mv1.d6
      have d7 := mv1.d7
      have d8 := mv1.d8
      have d9 := mv1.d9
      have hgl := cell_lt d0
      have Hm : Hid (ms[t]? = some m) := hm
      clear he mv0 mv1 hm
      obtain ⟨x1, hx1⟩ : ∃ x, (m.kd == 8) = x := ⟨_, rfl⟩
      cases x1
      · go_wp2_with fail
        have hmb : (wr.alloc (.cells #[.int .i64 m.p, .int .i64 m.kd, .int .i64 m.a, .bool true, .slice (some ⟨b1, o1, none⟩) N c1, .slice (some ⟨b2, o2, none⟩) N c2, .slice (some ⟨b3, o3, none⟩) N c3, .slice (some ⟨b4, o4, none⟩) N c4, .slice a5 m.pipe.length c5, .slice a6 m.pipe2.length c6] 56)).heap[wr.heap.size]? = some (.cells #[.int .i64 m.p, .int .i64 m.kd, .int .i64 m.a, .bool true, .slice (some ⟨b1, o1, none⟩) N c1, .slice (some ⟨b2, o2, none⟩) N c2, .slice (some ⟨b3, o3, none⟩) N c3, .slice (some ⟨b4, o4, none⟩) N c4, .slice a5 m.pipe.length c5, .slice a6 m.pipe2.length c6] 56 (0, 0)) := heap_alloc_new' _ _
        have C2 : Chg No wr (wr.alloc (.cells #[.int .i64 m.p, .int .i64 m.kd, .int .i64 m.a, .bool true, .slice (some ⟨b1, o1, none⟩) N c1, .slice (some ⟨b2, o2, none⟩) N c2, .slice (some ⟨b3, o3, none⟩) N c3, .slice (some ⟨b4, o4, none⟩) N c4, .slice a5 m.pipe.length c5, .slice a6 m.pipe2.length c6] 56)) := (Chg.refl _ _).alloc _
        generalize wr.alloc (.cells #[.int .i64 m.p, .int .i64 m.kd, .int .i64 m.a, .bool true, .slice (some ⟨b1, o1, none⟩) N c1, .slice (some ⟨b2, o2, none⟩) N c2, .slice (some ⟨b3, o3, none⟩) N c3, .slice (some ⟨b4, o4, none⟩) N c4, .slice a5 m.pipe.length c5, .slice a6 m.pipe2.length c6] 56) = W3 at *
        have HMX : Hid (W3.heap[wr.heap.size]? = some (.cells #[.int .i64 m.p, .int .i64 m.kd, .int .i64 m.a, .bool true, .slice (some ⟨b1, o1, none⟩) N c1, .slice (some ⟨b2, o2, none⟩) N c2, .slice (some ⟨b3, o3, none⟩) N c3, .slice (some ⟨b4, o4, none⟩) N c4, .slice a5 m.pipe.length c5, .slice a6 m.pipe2.length c6] 56 (0, 0))) := hmb
        have HC3 : Hid (Chg No wr W3) := C2
        clear hmb C2 d0 d1 d2 d3 d4 d5 d6 d7 d8 d9 hgl hx2 hxl
        generalize wr.heap.size = mb at *
        go_loopw [6] (fun qv wq => ∃ j : Nat, j ≤ N ∧ qv = .int .i64 j ∧ Hid (Chg No W3 wq)) (fun qv _ => N - (intOf qv).toNat)
        case atStart => exact ⟨0, by omega, rfl, Chg.refl _ _⟩
        case round =>
          obtain ⟨j, hj, rfl, HCJ⟩ := hrel
          have hbx : wr.heap[mb]? = some (.cells #[.int .i64 m.p, .int .i64 m.kd, .int .i64 m.a, .bool true, .slice (some ⟨b1, o1, none⟩) N c1, .slice (some ⟨b2, o2, none⟩) N c2, .slice (some ⟨b3, o3, none⟩) N c3, .slice (some ⟨b4, o4, none⟩) N c4, .slice a5 m.pipe.length c5, .slice a6 m.pipe2.length c6] 56 (0, 0)) := by
            rw [HCJ.out.block _ (heap_lt HMX.out) (fun h => h)]; exact HMX.out
          have e0 : wr.cell? ⟨mb, 0, none⟩ = some (.int .i64 m.p) := by rw [cell_of hbx]; rfl
          have e1 : wr.cell? ⟨mb, 1, none⟩ = some (.int .i64 m.kd) := by rw [cell_of hbx]; rfl
          have e2 : wr.cell? ⟨mb, 2, none⟩ = some (.int .i64 m.a) := by rw [cell_of hbx]; rfl
          have e3 : wr.cell? ⟨mb, 3, none⟩ = some (.bool true) := by rw [cell_of hbx]; rfl
          have e4 : wr.cell? ⟨mb, 4, none⟩ = some (.slice (some ⟨b1, o1, none⟩) N c1) := by rw [cell_of hbx]; rfl
          have e5 : wr.cell? ⟨mb, 5, none⟩ = some (.slice (some ⟨b2, o2, none⟩) N c2) := by rw [cell_of hbx]; rfl
          have e6 : wr.cell? ⟨mb, 6, none⟩ = some (.slice (some ⟨b3, o3, none⟩) N c3) := by rw [cell_of hbx]; rfl
          have e7 : wr.cell? ⟨mb, 7, none⟩ = some (.slice (some ⟨b4, o4, none⟩) N c4) := by rw [cell_of hbx]; rfl
          have e8 : wr.cell? ⟨mb, 8, none⟩ = some (.slice a5 m.pipe.length c5) := by rw [cell_of hbx]; rfl
          have e9 : wr.cell? ⟨mb, 9, none⟩ = some (.slice a6 m.pipe2.length c6) := by rw [cell_of hbx]; rfl
          have hml : mb < wr.heap.size := heap_lt hbx
          clear hbx
          have HCQ : Hid (Chg No w wr) := (HCW.out.trans HC3.out).trans HCJ.out
          have HMQ : Hid (MV wr N m g t b1 o1 c1 b2 o2 c2 b3 o3 c3 b4 o4 c4 a5 c5 a6 c6) := HMV.out.chg HCQ.out
          by_cases hjN : j < N
          · have s1 := HMQ.out.st j hjN
            have l2 := cell_lt s1
            have HZ : Hid (m.st j = 3 → ∀ i, i < N → m.st i = 2 → m.wo i ≠ 9 + (j : Int)) := (HK.out t m Hm.out).2 j hjN
            obtain ⟨y, hy⟩ : ∃ y, (m.st j == 3) = y := ⟨_, rfl⟩
            cases y
            · go_wp2_with fail
              go_roundw
              case rel => exact ⟨j + 1, by omega, by go_num, HCJ⟩
              case measure => simp [intOf]; omega
            · have hy3 : m.st j = 3 := by simpa using hy
              have HO : Hid (∀ i, i < N → m.st i = 2 → m.wo i ≠ 9 + (j : Int)) := HZ.out hy3
              rw [hy3] at s1
              clear hy hy3 HZ
              go_wp2_with fail
              refine (sleepsOn_any wr N hN m g t b1 o1 c1 b2 o2 c2 b3 o3 c3 b4 o4 c4 a5 c5 a6 c6 HMQ _ (by first | exact HO | (unfold Hid; go_num; exact HO.out))).mono ?_
              rintro e w5 ⟨rfl, C5⟩
              have HC5 : Hid (Chg No W3 w5) := HCJ.out.trans C5
              clear C5
              go_wp2_with fail
              go_roundw
              case rel => exact ⟨j + 1, by omega, by go_num, HC5⟩
              case measure => simp [intOf]; omega
          · have hje : N = j := by omega
            subst hje
            go_wp2_with fail
            go_roundw
            case rel => exact ⟨t + 1, b4, o4, c4, by omega, by go_num, rfl, fun i hi => by rw [accAt_succ Hm.out]; exact HMQ.out.acc i hi, (HC.out.trans HC3.out).trans HCJ.out⟩
            case measure => simp [intOf]; omega
      · obtain ⟨p, a, hp, ha, hpp, haa, hw⟩ := (HK.out t m Hm.out).1 (by simpa using hx1)
        have HPA : Hid (m.p = (p : Int) ∧ m.a = (a : Int) ∧ WaitedOk m (accAt ms t) p a) := ⟨hpp, haa, hw⟩
        clear hpp haa hw
        go_wp2_with fail
        have hmb : (wr.alloc (.cells #[.int .i64 m.p, .int .i64 m.kd, .int .i64 m.a, .bool true, .slice (some ⟨b1, o1, none⟩) N c1, .slice (some ⟨b2, o2, none⟩) N c2, .slice (some ⟨b3, o3, none⟩) N c3, .slice (some ⟨b4, o4, none⟩) N c4, .slice a5 m.pipe.length c5, .slice a6 m.pipe2.length c6] 56)).heap[wr.heap.size]? = some (.cells #[.int .i64 m.p, .int .i64 m.kd, .int .i64 m.a, .bool true, .slice (some ⟨b1, o1, none⟩) N c1, .slice (some ⟨b2, o2, none⟩) N c2, .slice (some ⟨b3, o3, none⟩) N c3, .slice (some ⟨b4, o4, none⟩) N c4, .slice a5 m.pipe.length c5, .slice a6 m.pipe2.length c6] 56 (0, 0)) := heap_alloc_new' _ _
        have C2 : Chg No wr (wr.alloc (.cells #[.int .i64 m.p, .int .i64 m.kd, .int .i64 m.a, .bool true, .slice (some ⟨b1, o1, none⟩) N c1, .slice (some ⟨b2, o2, none⟩) N c2, .slice (some ⟨b3, o3, none⟩) N c3, .slice (some ⟨b4, o4, none⟩) N c4, .slice a5 m.pipe.length c5, .slice a6 m.pipe2.length c6] 56)) := (Chg.refl _ _).alloc _
        refine (waited_any _ N hN m g t b1 o1 c1 b2 o2 c2 b3 o3 c3 b4 o4 c4 a5 c5 a6 c6 (HMV.out.chg (HCW.out.trans C2)) ab ao ac (accAt ms t) (fun j hj => by
          rw [C2.cell (p := ⟨ab, ao + j, none⟩) (cell_lt (HR.out j hj)) (fun h => h)]; exact HR.out j hj) p a hp ha HPA.out.1 HPA.out.2.1 HPA.out.2.2).mono ?_
        rintro e W3 ⟨rfl, C3⟩
        have HMX : Hid (W3.heap[wr.heap.size]? = some (.cells #[.int .i64 m.p, .int .i64 m.kd, .int .i64 m.a, .bool true, .slice (some ⟨b1, o1, none⟩) N c1, .slice (some ⟨b2, o2, none⟩) N c2, .slice (some ⟨b3, o3, none⟩) N c3, .slice (some ⟨b4, o4, none⟩) N c4, .slice a5 m.pipe.length c5, .slice a6 m.pipe2.length c6] 56 (0, 0))) := by
          unfold Hid; rw [C3.block _ (heap_lt hmb) (fun h => h)]; exact hmb
        have HC3 : Hid (Chg No wr W3) := C2.trans C3
        clear hmb C2 C3 d0 d1 d2 d3 d4 d5 d6 d7 d8 d9 hgl hx2 hxl
        go_wp2_with fail
        generalize wr.heap.size = mb at *
        go_loopw [6] (fun qv wq => ∃ j : Nat, j ≤ N ∧ qv = .int .i64 j ∧ Hid (Chg No W3 wq)) (fun qv _ => N - (intOf qv).toNat)
        case atStart => exact ⟨0, by omega, rfl, Chg.refl _ _⟩
        case round =>
          obtain ⟨j, hj, rfl, HCJ⟩ := hrel
          have hbx : wr.heap[mb]? = some (.cells #[.int .i64 m.p, .int .i64 m.kd, .int .i64 m.a, .bool true, .slice (some ⟨b1, o1, none⟩) N c1, .slice (some ⟨b2, o2, none⟩) N c2, .slice (some ⟨b3, o3, none⟩) N c3, .slice (some ⟨b4, o4, none⟩) N c4, .slice a5 m.pipe.length c5, .slice a6 m.pipe2.length c6] 56 (0, 0)) := by
            rw [HCJ.out.block _ (heap_lt HMX.out) (fun h => h)]; exact HMX.out
          have e0 : wr.cell? ⟨mb, 0, none⟩ = some (.int .i64 m.p) := by rw [cell_of hbx]; rfl
          have e1 : wr.cell? ⟨mb, 1, none⟩ = some (.int .i64 m.kd) := by rw [cell_of hbx]; rfl
          have e2 : wr.cell? ⟨mb, 2, none⟩ = some (.int .i64 m.a) := by rw [cell_of hbx]; rfl
          have e3 : wr.cell? ⟨mb, 3, none⟩ = some (.bool true) := by rw [cell_of hbx]; rfl
          have e4 : wr.cell? ⟨mb, 4, none⟩ = some (.slice (some ⟨b1, o1, none⟩) N c1) := by rw [cell_of hbx]; rfl
          have e5 : wr.cell? ⟨mb, 5, none⟩ = some (.slice (some ⟨b2, o2, none⟩) N c2) := by rw [cell_of hbx]; rfl
          have e6 : wr.cell? ⟨mb, 6, none⟩ = some (.slice (some ⟨b3, o3, none⟩) N c3) := by rw [cell_of hbx]; rfl
          have e7 : wr.cell? ⟨mb, 7, none⟩ = some (.slice (some ⟨b4, o4, none⟩) N c4) := by rw [cell_of hbx]; rfl
          have e8 : wr.cell? ⟨mb, 8, none⟩ = some (.slice a5 m.pipe.length c5) := by rw [cell_of hbx]; rfl
          have e9 : wr.cell? ⟨mb, 9, none⟩ = some (.slice a6 m.pipe2.length c6) := by rw [cell_of hbx]; rfl
          have hml : mb < wr.heap.size := heap_lt hbx
          clear hbx
          have HCQ : Hid (Chg No w wr) := (HCW.out.trans HC3.out).trans HCJ.out
          have HMQ : Hid (MV wr N m g t b1 o1 c1 b2 o2 c2 b3 o3 c3 b4 o4 c4 a5 c5 a6 c6) := HMV.out.chg HCQ.out
          by_cases hjN : j < N
          · have s1 := HMQ.out.st j hjN
            have l2 := cell_lt s1
            have HZ : Hid (m.st j = 3 → ∀ i, i < N → m.st i = 2 → m.wo i ≠ 9 + (j : Int)) := (HK.out t m Hm.out).2 j hjN
            obtain ⟨y, hy⟩ : ∃ y, (m.st j == 3) = y := ⟨_, rfl⟩
            cases y
            · go_wp2_with fail
              go_roundw
              case rel => exact ⟨j + 1, by omega, by go_num, HCJ⟩
              case measure => simp [intOf]; omega
            · have hy3 : m.st j = 3 := by simpa using hy
              have HO : Hid (∀ i, i < N → m.st i = 2 → m.wo i ≠ 9 + (j : Int)) := HZ.out hy3
              rw [hy3] at s1
              clear hy hy3 HZ
              go_wp2_with fail
              refine (sleepsOn_any wr N hN m g t b1 o1 c1 b2 o2 c2 b3 o3 c3 b4 o4 c4 a5 c5 a6 c6 HMQ _ (by first | exact HO | (unfold Hid; go_num; exact HO.out))).mono ?_
              rintro e w5 ⟨rfl, C5⟩
              have HC5 : Hid (Chg No W3 w5) := HCJ.out.trans C5
              clear C5
              go_wp2_with fail
              go_roundw
              case rel => exact ⟨j + 1, by omega, by go_num, HC5⟩
              case measure => simp [intOf]; omega
          · have hje : N = j := by omega
            subst hje
            go_wp2_with fail
            go_roundw
            case rel => exact ⟨t + 1, b4, o4, c4, by omega, by go_num, rfl, fun i hi => by rw [accAt_succ Hm.out]; exact HMQ.out.acc i hi, (HC.out.trans HC3.out).trans HCJ.out⟩
            case measure => simp [intOf]; omega
    · have hte : M = t := by omega
      subst hte
      go_wp2_with fail
      go_ret
      exact ⟨rfl, HC1.out.trans HC.out⟩
end Go.Proofs.Ygdapg
