/-
  kills, WALKED.
-/
import Derived.Test.YgdapgJ1
set_option linter.unusedSimpArgs false
set_option linter.unusedVariables false
namespace Go.Proofs.Ygdapg
open Go.RowKit

/-- Whether one of the first i moments killed q. -/
def dd (ms : List Mo) (i q : Nat) : Bool := (ms.take i).any fun m => m.kd == 7 && m.a == (q : Int)
theorem dd_succ {ms : List Mo} {i : Nat} {m : Mo} (h : ms[i]? = some m) (q : Nat) : dd ms (i + 1) q = (dd ms i q || (m.kd == 7 && m.a == (q : Int))) := by
  unfold dd
  rw [List.take_add_one, h]
  simp
def KillsOk (N : Nat) (ms : List Mo) : Prop := ∀ i m, ms[i]? = some m → ∀ q, q < N → (dd ms i q = true → m.p ≠ (q : Int)) ∧ (dd ms (i + 1) q = true → m.st q = 3 ∧ m.su q = -2)

set_option maxRecDepth 100000 in
set_option maxHeartbeats 1000000 in
theorem kills_any (w : World) (B N : Nat) (V mv : Value) (X : Nat → Prop) (ms : List Mo) (cf : Nat → List Value) (H : Hid (HistAt B w V X N mv ms cf)) (hN : N ≤ 8) (M : Nat) (HM : Hid (ms.length = M)) (hM : M ≤ 256) (HK : Hid (KillsOk N ms)) (h0 : Hid (0 < M → 0 < N)) (HV : Hid (∃ a m c, V = .slice a m c)) :
    Calls Yapd.prog 25 #[.agg #[.int .i64 (N : Int), .bool true, mv, V]] w fun e w' => e = .returned (.bool true) ∧ Chg No w w' := by
  obtain ⟨mq, nq, rfl⟩ : ∃ mq nq, mv = .slice mq M nq := by rw [← HM.out]; exact H.out.shape
  obtain ⟨qa, qm, qc, rfl⟩ := HV.out
  go_enter Yapd.func25, Yapd.ntmps25
  go_wp2_with fail
  have hb0 : (w.alloc (.cells #[.int .i64 (N : Int), .bool true, .slice mq M nq, .slice qa qm qc] 32)).heap[w.heap.size]? = some (.cells #[.int .i64 (N : Int), .bool true, .slice mq M nq, .slice qa qm qc] 32 (0, 0)) := heap_alloc_new' _ _
  have C0 : Chg No w (w.alloc (.cells #[.int .i64 (N : Int), .bool true, .slice mq M nq, .slice qa qm qc] 32)) := (Chg.refl _ _).alloc _
  generalize w.alloc (.cells #[.int .i64 (N : Int), .bool true, .slice mq M nq, .slice qa qm qc] 32) = W0 at *
  rw [make_bools W0 N (by omega)]
  simp only [Result.andThen_ok]
  go_wp2_with fail
  have R1 : RowV (W0.alloc (.cells (arrB N) 4)) W0.heap.size N (fun x => .bool (dd ms 0 x)) := RowV.bools W0 N
  have C1 : Chg No W0 (W0.alloc (.cells (arrB N) 4)) := (Chg.refl _ _).alloc _
  have hb1 : (W0.alloc (.cells (arrB N) 4)).heap[w.heap.size]? = some (.cells #[.int .i64 (N : Int), .bool true, .slice mq M nq, .slice qa qm qc] 32 (0, 0)) := by
    rw [C1.block _ (heap_lt hb0) (fun h => h)]; exact hb0
  have HD : Hid (w.heap.size < W0.heap.size) := heap_lt hb0
  generalize W0.alloc (.cells (arrB N) 4) = W1 at *
  have HB1 : Hid (W1.heap[w.heap.size]? = some (.cells #[.int .i64 (N : Int), .bool true, .slice mq M nq, .slice qa qm qc] 32 (0, 0))) := hb1
  have HC1 : Hid (Chg No w W1) := C0.trans C1
  have HR1 : Hid (RowV W1 W0.heap.size N (fun x => .bool (dd ms 0 x))) := R1
  clear R1 C1 C0 hb0 hb1
  generalize W0.heap.size = db at *
  go_loopw [4] (fun i wr => ∃ t : Nat, t ≤ M ∧ i = .int .i64 t ∧ Hid (RowV wr db N (fun x => .bool (dd ms t x))) ∧ Hid (Chg (fun b => b = db) W1 wr)) (fun i _ => M - (intOf i).toNat)
  case atStart => exact ⟨0, by omega, rfl, HR1, Chg.refl _ _⟩
  case round =>
    clear HR1
    obtain ⟨t, ht, rfl, HR, HC⟩ := hrel
    have hbx : wr.heap[w.heap.size]? = some (.cells #[.int .i64 (N : Int), .bool true, .slice mq M nq, .slice qa qm qc] 32 (0, 0)) := by
      rw [HC.out.block _ (heap_lt HB1.out) (fun h => by have := HD.out; omega)]; exact HB1.out
    have hx2 : wr.cell? ⟨w.heap.size, 2, none⟩ = some (.slice mq M nq) := by rw [cell_of hbx]; rfl
    have hxl : w.heap.size < wr.heap.size := heap_lt hbx
    clear hbx
    by_cases hlt : t < M
    · obtain ⟨m, hm⟩ : ∃ m, ms[t]? = some m := ⟨ms[t]'(by rw [HM.out]; exact hlt), by simp⟩
      have hN0 : 0 < N := h0.out (by omega)
      obtain ⟨g, cap, b1, o1, c1, b2, o2, c2, b3, o3, c3, b4, o4, c4, a5, c5, a6, c6, he, mv0⟩ := H.out.view hN0 hm
      obtain ⟨rfl, -, rfl⟩ : mq = some ⟨g, 0, none⟩ ∧ M = ms.length ∧ nq = cap := by simpa using he
      have HMV : Hid (MV w N m g t b1 o1 c1 b2 o2 c2 b3 o3 c3 b4 o4 c4 a5 c5 a6 c6) := mv0
      have HCW : Hid (Chg No w wr) := HC1.out.over HC.out (fun b h => by have := HD.out; omega)
      have mv1 := mv0.chg HCW.out
      have d0 := mv1.d0
      have d1 := mv1.d1
      have d2 := mv1.d2
      have d3 := mv1.d3
      have d4 := mv1.d4
      have d5 := mv1.d5
      have d6 := mv1.d6
      have d7 := mv1.d7
      have d8 := mv1.d8
      have d9 := mv1.d9
      have hgl := cell_lt d0
      have Hm : Hid (ms[t]? = some m) := hm
      clear he mv0 mv1 hm
      go_wp2_with fail
      have hmb : (wr.alloc (.cells #[.int .i64 m.p, .int .i64 m.kd, .int .i64 m.a, .bool true, .slice (some ⟨b1, o1, none⟩) N c1, .slice (some ⟨b2, o2, none⟩) N c2, .slice (some ⟨b3, o3, none⟩) N c3, .slice (some ⟨b4, o4, none⟩) N c4, .slice a5 m.pipe.length c5, .slice a6 m.pipe2.length c6] 56)).heap[wr.heap.size]? = some (.cells #[.int .i64 m.p, .int .i64 m.kd, .int .i64 m.a, .bool true, .slice (some ⟨b1, o1, none⟩) N c1, .slice (some ⟨b2, o2, none⟩) N c2, .slice (some ⟨b3, o3, none⟩) N c3, .slice (some ⟨b4, o4, none⟩) N c4, .slice a5 m.pipe.length c5, .slice a6 m.pipe2.length c6] 56 (0, 0)) := heap_alloc_new' _ _
      have C2 : Chg No wr (wr.alloc (.cells #[.int .i64 m.p, .int .i64 m.kd, .int .i64 m.a, .bool true, .slice (some ⟨b1, o1, none⟩) N c1, .slice (some ⟨b2, o2, none⟩) N c2, .slice (some ⟨b3, o3, none⟩) N c3, .slice (some ⟨b4, o4, none⟩) N c4, .slice a5 m.pipe.length c5, .slice a6 m.pipe2.length c6] 56)) := (Chg.refl _ _).alloc _
      generalize wr.alloc (.cells #[.int .i64 m.p, .int .i64 m.kd, .int .i64 m.a, .bool true, .slice (some ⟨b1, o1, none⟩) N c1, .slice (some ⟨b2, o2, none⟩) N c2, .slice (some ⟨b3, o3, none⟩) N c3, .slice (some ⟨b4, o4, none⟩) N c4, .slice a5 m.pipe.length c5, .slice a6 m.pipe2.length c6] 56) = W2 at *
      have HMB : Hid (W2.heap[wr.heap.size]? = some (.cells #[.int .i64 m.p, .int .i64 m.kd, .int .i64 m.a, .bool true, .slice (some ⟨b1, o1, none⟩) N c1, .slice (some ⟨b2, o2, none⟩) N c2, .slice (some ⟨b3, o3, none⟩) N c3, .slice (some ⟨b4, o4, none⟩) N c4, .slice a5 m.pipe.length c5, .slice a6 m.pipe2.length c6] 56 (0, 0))) := hmb
      have HC2 : Hid (Chg No wr W2) := C2
      have HR2 : Hid (RowV W2 db N (mid (fun x => .bool (dd ms (t + 1) x)) (fun x => .bool (dd ms t x)) 0)) := by
        unfold Hid; rw [mid_zero]; exact HR.out.chg C2 (fun h => h)
      have HDM : Hid (db < wr.heap.size) := HR.out.lt
      clear hmb C2 d0 d1 d2 d3 d4 d5 d6 d7 d8 d9 hgl hx2 hxl
      generalize wr.heap.size = mb at *
      go_loopw [6] (fun qv wq => ∃ j : Nat, j ≤ N ∧ qv = .int .i64 j ∧ Hid (RowV wq db N (mid (fun x => .bool (dd ms (t + 1) x)) (fun x => .bool (dd ms t x)) j)) ∧ Hid (Chg (fun b => b = db) W2 wq)) (fun qv _ => N - (intOf qv).toNat)
      case atStart => exact ⟨0, by omega, rfl, HR2, Chg.refl _ _⟩
      case round =>
        clear HR2
        obtain ⟨j, hj, rfl, HRJ, HCJ⟩ := hrel
        have hbx : wr.heap[mb]? = some (.cells #[.int .i64 m.p, .int .i64 m.kd, .int .i64 m.a, .bool true, .slice (some ⟨b1, o1, none⟩) N c1, .slice (some ⟨b2, o2, none⟩) N c2, .slice (some ⟨b3, o3, none⟩) N c3, .slice (some ⟨b4, o4, none⟩) N c4, .slice a5 m.pipe.length c5, .slice a6 m.pipe2.length c6] 56 (0, 0)) := by
          rw [HCJ.out.block _ (heap_lt HMB.out) (fun h => by have := HDM.out; omega)]; exact HMB.out
        have e0 : wr.cell? ⟨mb, 0, none⟩ = some (.int .i64 m.p) := by rw [cell_of hbx]; rfl
        have e1 : wr.cell? ⟨mb, 1, none⟩ = some (.int .i64 m.kd) := by rw [cell_of hbx]; rfl
        have e2 : wr.cell? ⟨mb, 2, none⟩ = some (.int .i64 m.a) := by rw [cell_of hbx]; rfl
        have e4 : wr.cell? ⟨mb, 4, none⟩ = some (.slice (some ⟨b1, o1, none⟩) N c1) := by rw [cell_of hbx]; rfl
        have e6 : wr.cell? ⟨mb, 6, none⟩ = some (.slice (some ⟨b3, o3, none⟩) N c3) := by rw [cell_of hbx]; rfl
        have hml : mb < wr.heap.size := heap_lt hbx
        clear hbx
        by_cases hjN : j < N
        · have HCQ : Hid (Chg No w wr) := (HCW.out.trans HC2.out).over HCJ.out (fun b h => by have := HD.out; omega)
          have mv2 := HMV.out.chg HCQ.out
          have s1 := mv2.st j hjN
          have s3 := mv2.su j hjN
          have r1 := HRJ.out.cell hjN
          rw [mid_at] at r1
          have z1 := HRJ.out.fz (j := j)
          have l1 := HRJ.out.lt
          have l2 := cell_lt s1
          have l3 := cell_lt s3
          obtain ⟨k1, k2⟩ := HK.out t m Hm.out j hjN
          rw [dd_succ Hm.out j] at k2
          have hS := dd_succ Hm.out j
          obtain ⟨x1, hx1⟩ : ∃ x, (m.kd == 7) = x := ⟨_, rfl⟩
          obtain ⟨x2, hx2⟩ : ∃ x, (m.a == (j : Int)) = x := ⟨_, rfl⟩
          obtain ⟨x3, hx3⟩ : ∃ x, dd ms t j = x := ⟨_, rfl⟩
          rw [hx1, hx2, hx3] at k2 hS
          rw [hx3] at k1 r1
          have P1 : Hid (x3 = true → (m.p == (j : Int)) = false) := fun h => by simpa using k1 h
          have P2 : Hid ((x3 || (x1 && x2)) = true → m.st j = 3 ∧ m.su j = -2) := k2
          have HS : Hid (dd ms (t + 1) j = (x3 || (x1 && x2))) := hS
          have H3 : Hid (dd ms t j = x3) := hx3
          have n0 : mb ≠ db := by have := HDM.out; omega
          have n1 : b1 ≠ db := by have := cell_lt (HMV.out.st j hjN); have := HD.out; omega
          have n3 : b3 ≠ db := by have := cell_lt (HMV.out.su j hjN); have := HD.out; omega
          clear k1 k2 hS hx3 mv2
          cases x1 <;> cases x2 <;> cases x3
          all_goals
            first
              | have p1 := P1.out rfl
              | skip
            first
              | (obtain ⟨p2, p3⟩ := P2.out rfl; rw [p2] at s1; rw [p3] at s3; clear p2 p3)
              | skip
            go_wp2_with fail
            go_roundw
            case rel =>
              first
                | exact ⟨j + 1, by omega, by go_num, by unfold Hid; rw [← mid_keep (by rw [HS.out, H3.out]; rfl)]; exact HRJ.out, HCJ⟩
                | exact ⟨j + 1, by omega, by go_num, by unfold Hid; rw [← mid_store (v := .bool true) (by rw [HS.out]; rfl)]; exact HRJ.out.set j _, HCJ.out.setCell (.inl rfl) _⟩
            case measure => simp [intOf]; omega
        · have hje : j = N := by omega
          subst hje
          go_wp2_with fail
          go_roundw
          case rel => exact ⟨t + 1, by omega, by go_num, HRJ.out.full, (HC.out.trans (HC2.out.mono fun _ h => h.elim)).trans HCJ.out⟩
          case measure => simp [intOf]; omega
    · have hte : t = M := by omega
      subst hte
      go_wp2_with fail
      go_ret
      exact ⟨rfl, HC1.out.over HC.out (fun b h => by have := HD.out; omega)⟩
end Go.Proofs.Ygdapg
