/-
  foremost, neverPassedOver, WALKED.
-/
import Derived.Test.YgdapgJ1
import Derived.Test.YgdapgP4
import Derived.BigQuiet
set_option linter.unusedSimpArgs false
set_option linter.unusedVariables false
namespace Go.Proofs.Ygdapg
open Go.RowKit

set_option maxRecDepth 100000 in
set_option maxHeartbeats 1000000 in
theorem foremost_any (w : World) (N : Nat) (hN : N ≤ 8) (b o c b2 o2 c2 : Nat) (st pr : Nat → Int) (HS : Hid (∀ j, j < N → w.cell? ⟨b, o + j, none⟩ = some (.int .i64 (st j)))) (HP : Hid (∀ j, j < N → w.cell? ⟨b2, o2 + j, none⟩ = some (.int .i64 (pr j))))
    (p : Nat) (hp : p < N) (H0 : Hid (st p = 0)) (HB : Hid (∀ j, j < N → st j = 0 → pr j ≤ pr p)) :
    Calls Yapd.prog 52 #[.int .i64 (p : Int), .slice (some ⟨b, o, none⟩) N c, .slice (some ⟨b2, o2, none⟩) N c2] w fun e w' => e = .returned (.bool true) ∧ Chg No w w' := by
  have s0 := HS.out p hp
  rw [H0.out] at s0
  have q0 := HP.out p hp
  go_enter Yapd.func52, Yapd.ntmps52
  go_wp2_with fail
  go_loopw [8] (fun qv wq => ∃ j : Nat, j ≤ N ∧ qv = .int .i64 j ∧ Hid (Chg No w wq)) (fun qv _ => N - (intOf qv).toNat)
  case atStart => exact ⟨0, by omega, rfl, Chg.refl _ _⟩
  case round =>
    obtain ⟨j, hj, rfl, HC⟩ := hrel
    by_cases hjN : j < N
    · have s1 := HS.out j hjN
      have q1 := HP.out j hjN
      have r0 : wr.cell? ⟨b2, o2 + p, none⟩ = some (.int .i64 (pr p)) := by rw [HC.out.cell (p := ⟨b2, o2 + p, none⟩) (cell_lt q0) (fun h => h)]; exact q0
      have r1 : wr.cell? ⟨b2, o2 + j, none⟩ = some (.int .i64 (pr j)) := by rw [HC.out.cell (p := ⟨b2, o2 + j, none⟩) (cell_lt q1) (fun h => h)]; exact q1
      have t1 : wr.cell? ⟨b, o + j, none⟩ = some (.int .i64 (st j)) := by rw [HC.out.cell (p := ⟨b, o + j, none⟩) (cell_lt s1) (fun h => h)]; exact s1
      clear s1 q1
      by_cases h0 : st j = 0
      · have hle := HB.out j hjN h0
        rw [h0] at t1
        clear h0
        go_wp2_with fail
        go_quiet (fail)
        go_wp2_with fail
        go_roundw
        case rel => exact ⟨j + 1, by omega, by go_num, HC.out.drewN _⟩
        case measure => simp [intOf]; omega
      · have h0' : (st j == 0) = false := by simpa using h0
        clear h0
        go_wp2_with fail
        go_quiet (fail)
        go_wp2_with fail
        go_roundw
        case rel => exact ⟨j + 1, by omega, by go_num, HC.out.drewN _⟩
        case measure => simp [intOf]; omega
    · have hje : N = j := by omega
      subst hje
      go_wp2_with fail
      go_ret
      exact ⟨rfl, HC.out⟩

/-- state before the i-th quantum, as neverPassedOver keeps it. -/
def stAt (ms : List Mo) : Nat → Nat → Int
  | 0, _ => 0
  | i + 1, q => match ms[i]? with
    | some m => m.st q
    | none => 0
theorem stAt_succ {ms : List Mo} {i : Nat} {m : Mo} (h : ms[i]? = some m) (q : Nat) : stAt ms (i + 1) q = m.st q := by simp [stAt, h]
def NpoOk (N : Nat) (pr : Nat → Int) (q : Int) (ms : List Mo) : Prop :=
  (∀ i m, ms[i]? = some m → ∃ p : Nat, p < N ∧ m.p = (p : Int) ∧ stAt ms i p = 0 ∧ ∀ j, j < N → stAt ms i j = 0 → pr j ≤ pr p) ∧ ((ms.length : Int) < q → ∀ j, j < N → stAt ms ms.length j ≠ 0)

set_option maxRecDepth 100000 in
set_option maxHeartbeats 2000000 in
theorem npo_any (w : World) (B N : Nat) (V mv : Value) (X : Nat → Prop) (ms : List Mo) (cf : Nat → List Value) (H : Hid (HistAt B w V X N mv ms cf)) (hN : N ≤ 8) (M : Nat) (HM : Hid (ms.length = M)) (hM : M ≤ 256) (pv : Value) (pr : Nat → Int) (B2 : Nat) (HPV : Hid (IntsAt B2 w pv N pr)) (q : Int) (HK : Hid (NpoOk N pr q ms)) (h0 : Hid (0 < M → 0 < N)) (HV : Hid (∃ a m c, V = .slice a m c)) :
    Calls Yapd.prog 32 #[.agg #[.int .i64 (N : Int), .bool true, mv, V], pv, .int .i64 q] w fun e w' => e = .returned (.bool true) ∧ Chg No w w' := by
  obtain ⟨mq, nq, rfl⟩ : ∃ mq nq, mv = .slice mq M nq := by rw [← HM.out]; exact H.out.shape
  obtain ⟨qa, qm, qc, rfl⟩ := HV.out
  obtain ⟨a2, c2, rfl, hpv⟩ := HPV.out
  have HP : Hid (0 < N → ∃ b o, a2 = some ⟨b, o, none⟩ ∧ b < B2 ∧ ∀ i, i < N → w.cell? ⟨b, o + i, none⟩ = some (.int .i64 (pr i))) := hpv
  clear hpv
  go_enter Yapd.func32, Yapd.ntmps32
  go_wp2_with fail
  have hb0 : (w.alloc (.cells #[.int .i64 (N : Int), .bool true, .slice mq M nq, .slice qa qm qc] 32)).heap[w.heap.size]? = some (.cells #[.int .i64 (N : Int), .bool true, .slice mq M nq, .slice qa qm qc] 32 (0, 0)) := heap_alloc_new' _ _
  have C0 : Chg No w (w.alloc (.cells #[.int .i64 (N : Int), .bool true, .slice mq M nq, .slice qa qm qc] 32)) := (Chg.refl _ _).alloc _
  generalize w.alloc (.cells #[.int .i64 (N : Int), .bool true, .slice mq M nq, .slice qa qm qc] 32) = W0 at *
  rw [make_ints W0 N N (Nat.le_refl _) (by omega)]
  simp only [Result.andThen_ok]
  go_wp2_with fail
  have R1 : RowV (W0.alloc (.cells (arr N fun _ => 0) 3)) W0.heap.size N (fun _ => .int .i64 0) := RowV.ints W0 N _
  have C1 : Chg No W0 (W0.alloc (.cells (arr N fun _ => 0) 3)) := (Chg.refl _ _).alloc _
  have hb1 : (W0.alloc (.cells (arr N fun _ => 0) 3)).heap[w.heap.size]? = some (.cells #[.int .i64 (N : Int), .bool true, .slice mq M nq, .slice qa qm qc] 32 (0, 0)) := by
    rw [C1.block _ (heap_lt hb0) (fun h => h)]; exact hb0
  have HD : Hid (w.heap.size < W0.heap.size) := heap_lt hb0
  generalize W0.alloc (.cells (arr N fun _ => 0) 3) = W1 at *
  have HB1 : Hid (W1.heap[w.heap.size]? = some (.cells #[.int .i64 (N : Int), .bool true, .slice mq M nq, .slice qa qm qc] 32 (0, 0))) := hb1
  have HC1 : Hid (Chg No w W1) := C0.trans C1
  have HR1 : Hid (RowV W1 W0.heap.size N (fun _ => .int .i64 0)) := R1
  clear R1 C1 C0 hb0 hb1
  generalize W0.heap.size = db at *
  go_loopw [8] (fun qv wq => ∃ j : Nat, j ≤ N ∧ qv = .int .i64 j ∧ Hid (RowV wq db N (fun _ => .int .i64 0)) ∧ Hid (Chg (fun b => b = db) W1 wq)) (fun qv _ => N - (intOf qv).toNat)
  case atStart => exact ⟨0, by omega, rfl, HR1, Chg.refl _ _⟩
  case round =>
  clear HR1
  obtain ⟨j, hj, rfl, HRJ, HCJ⟩ := hrel
  by_cases hjN : j < N
  · have r1 := HRJ.out.cell hjN
    have z1 := HRJ.out.fz (j := j)
    have l1 := HRJ.out.lt
    go_wp2_with fail
    go_roundw
    case rel => exact ⟨j + 1, by omega, by go_num, (HRJ.out.set j _).congr (fun x hx => by simp [updV]), HCJ.out.setCell (.inl rfl) _⟩
    case measure => simp [intOf]; omega
  have hje : N = j := by omega
  subst hje
  go_wp2_with fail
  have HR1 : Hid (∀ j, j < N → wr.cell? ⟨db, 0 + j, none⟩ = some (.int .i64 (stAt ms 0 j))) := fun j hj => by rw [Nat.zero_add]; exact HRJ.out.cell hj
  have HB2 : Hid (wr.heap[w.heap.size]? = some (.cells #[.int .i64 (N : Int), .bool true, .slice mq M nq, .slice qa qm qc] 32 (0, 0))) := by
    unfold Hid; rw [HCJ.out.block _ (heap_lt HB1.out) (fun h => by have := HD.out; omega)]; exact HB1.out
  have HC2 : Hid (Chg No w wr) := HC1.out.over HCJ.out (fun b h => by have := HD.out; omega)
  clear HRJ HCJ HB1 HC1
  go_loopw [7, 9] (fun av i wq => ∃ t ab ao ac : Nat, t ≤ M ∧ i = .int .i64 t ∧ av = .slice (some ⟨ab, ao, none⟩) N ac ∧ Hid (∀ j, j < N → wq.cell? ⟨ab, ao + j, none⟩ = some (.int .i64 (stAt ms t j))) ∧ Hid (Chg No wr wq)) (fun _ i _ => M - (intOf i).toNat)
  case atStart => exact ⟨0, db, 0, N, by omega, rfl, rfl, HR1, Chg.refl _ _⟩
  case round =>
    clear HR1
    obtain ⟨t, ab, ao, ac, ht, rfl, rfl, HR, HC⟩ := hrel
    have hbx : wr.heap[w.heap.size]? = some (.cells #[.int .i64 (N : Int), .bool true, .slice mq M nq, .slice qa qm qc] 32 (0, 0)) := by
      rw [HC.out.block _ (heap_lt HB2.out) (fun h => h)]; exact HB2.out
    have hx2 : wr.cell? ⟨w.heap.size, 2, none⟩ = some (.slice mq M nq) := by rw [cell_of hbx]; rfl
    have hxl : w.heap.size < wr.heap.size := heap_lt hbx
    clear hbx
    have HCW : Hid (Chg No w wr) := HC2.out.trans HC.out
    by_cases hlt : t < M
    · obtain ⟨m, hm⟩ : ∃ m, ms[t]? = some m := ⟨ms[t]'(by rw [HM.out]; exact hlt), by simp⟩
      have hN0 : 0 < N := h0.out (by omega)
      obtain ⟨g, cap, b1, o1, c1, b2, o2, c2', b3, o3, c3, b4, o4, c4, a5, c5, a6, c6, he, mv0⟩ := H.out.view hN0 hm
      obtain ⟨rfl, -, rfl⟩ : mq = some ⟨g, 0, none⟩ ∧ M = ms.length ∧ nq = cap := by simpa using he
      have HMV : Hid (MV w N m g t b1 o1 c1 b2 o2 c2' b3 o3 c3 b4 o4 c4 a5 c5 a6 c6) := mv0
      obtain ⟨pb, po, rfl, -, hpc⟩ := HP.out hN0
      obtain ⟨p, hp, hpp, hs0, hbest⟩ := HK.out.1 t m hm
      have HPC : Hid (∀ j, j < N → wr.cell? ⟨pb, po + j, none⟩ = some (.int .i64 (pr j))) := fun j hj => by
        rw [HCW.out.cell (p := ⟨pb, po + j, none⟩) (cell_lt (hpc j hj)) (fun h => h)]; exact hpc j hj
      have mv1 := mv0.chg HCW.out
      have d0 := mv1.d0
      have d4 := mv1.d4
      rw [hpp] at d0
      have hgl := cell_lt d0
      have Hm : Hid (ms[t]? = some m) := hm
      have HS0 : Hid (stAt ms t p = 0) := hs0
      have HBE : Hid (∀ j, j < N → stAt ms t j = 0 → pr j ≤ pr p) := hbest
      clear he mv0 mv1 hm hpc hpp hs0 hbest
      go_wp2_with fail
      refine (foremost_any wr N hN ab ao ac pb po c2 (stAt ms t) pr HR HPC p hp HS0 HBE).mono ?_
      rintro e w5 ⟨rfl, C5⟩
      have HC5 : Hid (Chg No wr w5) := C5
      have y2 : w5.cell? ⟨w.heap.size, 2, none⟩ = some (.slice (some ⟨g, 0, none⟩) M nq) := by rw [C5.cell (p := ⟨w.heap.size, 2, none⟩) hxl (fun h => h)]; exact hx2
      have y4 : w5.cell? ⟨g, t * 10 + 4, none⟩ = some (.slice (some ⟨b1, o1, none⟩) N c1) := by rw [C5.cell (p := ⟨g, t * 10 + 4, none⟩) hgl (fun h => h)]; exact d4
      clear C5 d0 d4 hx2 hxl hgl
      go_wp2_with fail
      go_roundw
      case rel => exact ⟨t + 1, b1, o1, c1, by omega, by go_num, rfl, fun i hi => by rw [stAt_succ Hm.out]; exact (HMV.out.chg (HCW.out.trans HC5.out)).st i hi, HC.out.trans HC5.out⟩
      case measure => simp [intOf]; omega
    · have hte : M = t := by omega
      subst hte
      have HE : Hid ((M : Int) < q → ∀ j, j < N → stAt ms M j ≠ 0) := by have := HK.out.2; rw [HM.out] at this; exact this
      go_wp2_with fail
      go_loop [10] (fun qv => ∃ j : Nat, j ≤ N ∧ qv = .int .i64 j) (fun qv => N - (intOf qv).toNat)
      case atStart => exact ⟨0, by omega, rfl⟩
      case round =>
        obtain ⟨j, hj2, rfl⟩ := hrel
        by_cases hjN2 : j < N
        · by_cases hMq : (M : Int) < q
          · have s1 := HR.out j hjN2
            have hne : (stAt ms M j == 0) = false := by have := HE.out hMq j hjN2; simpa using this
            go_wp2_with fail
            go_round
            case rel => exact ⟨j + 1, by omega, by go_num⟩
            case measure => simp [intOf]; omega
          · go_wp2_with fail
            go_ret
            exact ⟨rfl, HCW.out⟩
        · have hje : N = j := by omega
          subst hje
          go_wp2_with fail
          go_ret
          exact ⟨rfl, HCW.out⟩
end Go.Proofs.Ygdapg
