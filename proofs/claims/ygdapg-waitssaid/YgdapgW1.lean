/-
  sleepsOn, waited, WALKED.
-/
import Derived.Test.YgdapgJ1
import Derived.BigQuiet
set_option linter.unusedSimpArgs false
set_option linter.unusedVariables false
namespace Go.Proofs.Ygdapg
open Go.RowKit

theorem run_min5 {P : Program} {w : World} (ts : Array TypeId) (t : TypeId) (x : Int) : (Builtin.min_ ts t #[.int .i64 x, .int .i64 x, .int .i64 x, .int .i64 x, .int .i64 x]).run P w = .ok (.int .i64 x) w := by
  simp [Builtin.min_, Builtin.min2]
theorem run_min4 {P : Program} {w : World} (ts : Array TypeId) (t : TypeId) (x : Int) : (Builtin.min_ ts t #[.int .i64 x, .int .i64 x, .int .i64 x, .int .i64 x]).run P w = .ok (.int .i64 x) w := by
  simp [Builtin.min_, Builtin.min2]

set_option maxRecDepth 100000 in
set_option maxHeartbeats 1000000 in
theorem sleepsOn_any (w : World) (N : Nat) (hN : N ≤ 8) (m : Mo) (g i b1 o1 c1 b2 o2 c2 b3 o3 c3 b4 o4 c4 : Nat) (a5 : Option Addr) (c5 : Nat) (a6 : Option Addr) (c6 : Nat) (HMV : Hid (MV w N m g i b1 o1 c1 b2 o2 c2 b3 o3 c3 b4 o4 c4 a5 c5 a6 c6)) (on : Int) (HO : Hid (∀ j, j < N → m.st j = 2 → m.wo j ≠ on)) :
    Calls Yapd.prog 44 #[.agg #[.int .i64 m.p, .int .i64 m.kd, .int .i64 m.a, .bool true, .slice (some ⟨b1, o1, none⟩) N c1, .slice (some ⟨b2, o2, none⟩) N c2, .slice (some ⟨b3, o3, none⟩) N c3, .slice (some ⟨b4, o4, none⟩) N c4, .slice a5 m.pipe.length c5, .slice a6 m.pipe2.length c6], .int .i64 on] w fun e w' => e = .returned (.bool false) ∧ Chg No w w' := by
  go_enter Yapd.func44, Yapd.ntmps44
  go_wp2_with fail
  have hb : (w.alloc (.cells #[.int .i64 m.p, .int .i64 m.kd, .int .i64 m.a, .bool true, .slice (some ⟨b1, o1, none⟩) N c1, .slice (some ⟨b2, o2, none⟩) N c2, .slice (some ⟨b3, o3, none⟩) N c3, .slice (some ⟨b4, o4, none⟩) N c4, .slice a5 m.pipe.length c5, .slice a6 m.pipe2.length c6] 56)).heap[w.heap.size]? = some (.cells #[.int .i64 m.p, .int .i64 m.kd, .int .i64 m.a, .bool true, .slice (some ⟨b1, o1, none⟩) N c1, .slice (some ⟨b2, o2, none⟩) N c2, .slice (some ⟨b3, o3, none⟩) N c3, .slice (some ⟨b4, o4, none⟩) N c4, .slice a5 m.pipe.length c5, .slice a6 m.pipe2.length c6] 56 (0, 0)) := heap_alloc_new' _ _
  have C0 : Chg No w (w.alloc (.cells #[.int .i64 m.p, .int .i64 m.kd, .int .i64 m.a, .bool true, .slice (some ⟨b1, o1, none⟩) N c1, .slice (some ⟨b2, o2, none⟩) N c2, .slice (some ⟨b3, o3, none⟩) N c3, .slice (some ⟨b4, o4, none⟩) N c4, .slice a5 m.pipe.length c5, .slice a6 m.pipe2.length c6] 56)) := (Chg.refl _ _).alloc _
  generalize w.alloc (.cells #[.int .i64 m.p, .int .i64 m.kd, .int .i64 m.a, .bool true, .slice (some ⟨b1, o1, none⟩) N c1, .slice (some ⟨b2, o2, none⟩) N c2, .slice (some ⟨b3, o3, none⟩) N c3, .slice (some ⟨b4, o4, none⟩) N c4, .slice a5 m.pipe.length c5, .slice a6 m.pipe2.length c6] 56) = W0 at *
  have e4 : W0.cell? ⟨w.heap.size, 4, none⟩ = some (.slice (some ⟨b1, o1, none⟩) N c1) := by rw [cell_of hb]; rfl
  have e5 : W0.cell? ⟨w.heap.size, 5, none⟩ = some (.slice (some ⟨b2, o2, none⟩) N c2) := by rw [cell_of hb]; rfl
  have HM0 : Hid (MV W0 N m g i b1 o1 c1 b2 o2 c2 b3 o3 c3 b4 o4 c4 a5 c5 a6 c6) := HMV.out.chg C0
  have HC0 : Hid (Chg No w W0) := C0
  clear hb C0
  go_loop [5] (fun qv => ∃ j : Nat, j ≤ N ∧ qv = .int .i64 j) (fun qv => N - (intOf qv).toNat)
  case atStart => exact ⟨0, by omega, rfl⟩
  case round =>
    obtain ⟨j, hj, rfl⟩ := hrel
    by_cases hjN : j < N
    · have s1 := HM0.out.st j hjN
      have s2 := HM0.out.wo j hjN
      have hx := HO.out j hjN
      by_cases h2 : m.st j = 2
      · have hne : (m.wo j == on) = false := by simpa using hx h2
        rw [h2] at s1
        clear hx h2
        go_wp2_with fail
        go_round
        case rel => exact ⟨j + 1, by omega, by go_num⟩
        case measure => simp [intOf]; omega
      · have h2' : (m.st j == 2) = false := by simpa using h2
        clear hx h2
        go_wp2_with fail
        go_round
        case rel => exact ⟨j + 1, by omega, by go_num⟩
        case measure => simp [intOf]; omega
    · have hje : N = j := by omega
      subst hje
      go_wp2_with fail
      go_ret
      exact ⟨rfl, HC0.out⟩

/-- What a Wait must leave. -/
def WaitedOk (m : Mo) (acc : Nat → Int) (p a : Nat) : Prop :=
  (m.st a = 3 ∧ m.st p = 0 ∧ m.acc p = wrap64 (acc p + m.su a)) ∨ (m.st a ≠ 3 ∧ m.st p = 2 ∧ m.wo p = 9 + (a : Int) ∧ m.acc p = acc p)

set_option maxRecDepth 100000 in
set_option maxHeartbeats 4000000 in
theorem waited_any (w : World) (N : Nat) (hN : N ≤ 8) (m : Mo) (g i b1 o1 c1 b2 o2 c2 b3 o3 c3 b4 o4 c4 : Nat) (a5 : Option Addr) (c5 : Nat) (a6 : Option Addr) (c6 : Nat) (HMV : Hid (MV w N m g i b1 o1 c1 b2 o2 c2 b3 o3 c3 b4 o4 c4 a5 c5 a6 c6)) (ab ao ac : Nat) (acc : Nat → Int) (HA : Hid (∀ j, j < N → w.cell? ⟨ab, ao + j, none⟩ = some (.int .i64 (acc j)))) (p a : Nat) (hp : p < N) (ha : a < N) (Hp : Hid (m.p = p)) (Ha : Hid (m.a = a)) (HW : Hid (WaitedOk m acc p a)) :
    Calls Yapd.prog 47 #[.agg #[.int .i64 m.p, .int .i64 m.kd, .int .i64 m.a, .bool true, .slice (some ⟨b1, o1, none⟩) N c1, .slice (some ⟨b2, o2, none⟩) N c2, .slice (some ⟨b3, o3, none⟩) N c3, .slice (some ⟨b4, o4, none⟩) N c4, .slice a5 m.pipe.length c5, .slice a6 m.pipe2.length c6], .slice (some ⟨ab, ao, none⟩) N ac] w fun e w' => e = .returned (.bool true) ∧ Chg No w w' := by
  go_enter Yapd.func47, Yapd.ntmps47
  go_wp2_with fail
  have hb : (w.alloc (.cells #[.int .i64 m.p, .int .i64 m.kd, .int .i64 m.a, .bool true, .slice (some ⟨b1, o1, none⟩) N c1, .slice (some ⟨b2, o2, none⟩) N c2, .slice (some ⟨b3, o3, none⟩) N c3, .slice (some ⟨b4, o4, none⟩) N c4, .slice a5 m.pipe.length c5, .slice a6 m.pipe2.length c6] 56)).heap[w.heap.size]? = some (.cells #[.int .i64 m.p, .int .i64 m.kd, .int .i64 m.a, .bool true, .slice (some ⟨b1, o1, none⟩) N c1, .slice (some ⟨b2, o2, none⟩) N c2, .slice (some ⟨b3, o3, none⟩) N c3, .slice (some ⟨b4, o4, none⟩) N c4, .slice a5 m.pipe.length c5, .slice a6 m.pipe2.length c6] 56 (0, 0)) := heap_alloc_new' _ _
  have C0 : Chg No w (w.alloc (.cells #[.int .i64 m.p, .int .i64 m.kd, .int .i64 m.a, .bool true, .slice (some ⟨b1, o1, none⟩) N c1, .slice (some ⟨b2, o2, none⟩) N c2, .slice (some ⟨b3, o3, none⟩) N c3, .slice (some ⟨b4, o4, none⟩) N c4, .slice a5 m.pipe.length c5, .slice a6 m.pipe2.length c6] 56)) := (Chg.refl _ _).alloc _
  generalize w.alloc (.cells #[.int .i64 m.p, .int .i64 m.kd, .int .i64 m.a, .bool true, .slice (some ⟨b1, o1, none⟩) N c1, .slice (some ⟨b2, o2, none⟩) N c2, .slice (some ⟨b3, o3, none⟩) N c3, .slice (some ⟨b4, o4, none⟩) N c4, .slice a5 m.pipe.length c5, .slice a6 m.pipe2.length c6] 56) = W0 at *
  have e0 : W0.cell? ⟨w.heap.size, 0, none⟩ = some (.int .i64 (p : Int)) := by rw [cell_of hb, ← Hp.out]; rfl
  have e2 : W0.cell? ⟨w.heap.size, 2, none⟩ = some (.int .i64 (a : Int)) := by rw [cell_of hb, ← Ha.out]; rfl
  have e4 : W0.cell? ⟨w.heap.size, 4, none⟩ = some (.slice (some ⟨b1, o1, none⟩) N c1) := by rw [cell_of hb]; rfl
  have e5 : W0.cell? ⟨w.heap.size, 5, none⟩ = some (.slice (some ⟨b2, o2, none⟩) N c2) := by rw [cell_of hb]; rfl
  have e6 : W0.cell? ⟨w.heap.size, 6, none⟩ = some (.slice (some ⟨b3, o3, none⟩) N c3) := by rw [cell_of hb]; rfl
  have e7 : W0.cell? ⟨w.heap.size, 7, none⟩ = some (.slice (some ⟨b4, o4, none⟩) N c4) := by rw [cell_of hb]; rfl
  have HM0 : Hid (MV W0 N m g i b1 o1 c1 b2 o2 c2 b3 o3 c3 b4 o4 c4 a5 c5 a6 c6) := HMV.out.chg C0
  have HA0 : Hid (∀ j, j < N → W0.cell? ⟨ab, ao + j, none⟩ = some (.int .i64 (acc j))) := fun j hj => by
    rw [C0.cell (p := ⟨ab, ao + j, none⟩) (cell_lt (HA.out j hj)) (fun h => h)]; exact HA.out j hj
  have HC0 : Hid (Chg No w W0) := C0
  clear hb C0
  have s1 := HM0.out.st a ha
  have t1 := HM0.out.st p hp
  have t2 := HM0.out.wo p hp
  have s3 := HM0.out.su a ha
  have t4 := HM0.out.acc p hp
  have q1 := HA0.out p hp
  go_quiet (fail)
  go_wp2_with fail
  rw [run_min5]
  simp only [Result.andThen_ok]
  rcases HW.out with ⟨h1, h2, h3⟩ | ⟨h1, h2, h3, h4⟩
  · rw [h1] at s1
    rw [h2] at t1
    rw [h3] at t4
    clear h1 h2 h3
    go_wp2_with fail
    go_quiet (fail)
    go_wp2_with fail
    go_ret
    exact ⟨rfl, (HC0.out.drewN _).drewN _⟩
  · have h1' : (m.st a == 3) = false := by simpa using h1
    rw [h2] at t1
    rw [h3] at t2
    rw [h4] at t4
    clear h1 h2 h3 h4
    go_wp2_with fail
    go_quiet (fail)
    go_wp2_with fail
    go_ret
    exact ⟨rfl, (HC0.out.drewN _).drewN _⟩
end Go.Proofs.Ygdapg
