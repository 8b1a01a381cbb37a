/-
  The programs in memory; InBounds, plain, mustEnd, WALKED.
-/
import Derived.Test.YgdapgB1
set_option linter.unusedSimpArgs false
set_option linter.unusedVariables false
namespace Go.Proofs.Ygdapg
open Go.RowKit

/-- It returns a bool of which P holds. -/
def RetB (e : Ending) (P : Bool → Prop) : Prop := ∃ r, e = .returned (.bool r) ∧ P r

/-- The value v is a slice of N programs, the i-th of pl i operations pg i. -/
def ProgsAt (B : Nat) (w : World) (v : Value) (N : Nat) (pl : Nat → Nat) (pg : Nat → Nat → Int × Int) : Prop :=
  ∃ a c, v = .slice a N c ∧ (0 < N → ∃ b o, ∃ pv : Nat → Value, a = some ⟨b, o, none⟩ ∧ b < B ∧ ∀ i, i < N → w.cell? ⟨b, o + i, none⟩ = some (pv i) ∧ ProgAt B w (pv i) (pl i) (pg i))

theorem ProgsAt.below {B : Nat} {w w' : World} {v : Value} {N : Nat} {pl : Nat → Nat} {pg : Nat → Nat → Int × Int} (h : ProgsAt B w v N pl pg) (hb : Below B w w') : ProgsAt B w' v N pl pg := by
  obtain ⟨a, c, rfl, h⟩ := h
  refine ⟨a, c, rfl, fun hl => ?_⟩
  obtain ⟨b, o, pv, rfl, hlt, hc⟩ := h hl
  refine ⟨b, o, pv, rfl, hlt, fun j hj => ?_⟩
  rw [hb.cell (p := ⟨b, o + j, none⟩) hlt]
  exact ⟨(hc j hj).1, (hc j hj).2.below hb⟩

def InB (N : Nat) (pl : Nat → Nat) (q : Int) : Prop := N ≤ 8 ∧ 0 ≤ q ∧ q ≤ 256 ∧ ∀ i, i < N → pl i ≤ 32

set_option maxHeartbeats 400000 in
theorem inBounds_out (w : World) (a : Option Addr) (N c : Nat) (q : Int) (hN : N ≤ maxLen) (h : 8 < N ∨ q < 0 ∨ 256 < q) :
    Calls Yapd.prog 18 #[.slice a N c, .int .i64 q] w fun e w' => e = .returned (.bool false) ∧ w' = w := by
  unfold maxLen at hN
  by_cases h1 : 8 < N
  · have h1' : (8 : Int) < (N : Int) := by omega
    go_enter Yapd.func18, Yapd.ntmps18
    go_wp2
    go_ret
    exact ⟨rfl, rfl⟩
  · by_cases h2 : q < 0
    · go_enter Yapd.func18, Yapd.ntmps18
      go_wp2
      go_ret
      exact ⟨rfl, rfl⟩
    · have h3 : 256 < q := by omega
      clear h
      go_enter Yapd.func18, Yapd.ntmps18
      go_wp2
      go_ret
      exact ⟨rfl, rfl⟩

set_option maxHeartbeats 400000 in
theorem inBounds_none (w : World) (a : Option Addr) (c : Nat) (q : Int) (h1 : 0 ≤ q) (h2 : q ≤ 256) :
    Calls Yapd.prog 18 #[.slice a 0 c, .int .i64 q] w fun e w' => e = .returned (.bool true) ∧ w' = w := by
  go_enter Yapd.func18, Yapd.ntmps18
  go_wp2
  go_loop [5] (fun i => i = .int .i64 0) (fun i => 0)
  case atStart => rfl
  case round =>
    subst hrel
    go_wp2
    go_ret
    exact ⟨rfl, rfl⟩

set_option maxHeartbeats 400000 in
theorem inBounds_in (w : World) (b o N c : Nat) (q : Int) (h1 : 0 ≤ q) (h2 : q ≤ 256) (hN : N ≤ 8) (pl : Nat → Nat) (pa : Nat → Option Addr) (pc : Nat → Nat) (Hm : Hid (∀ i, i < N → pl i ≤ maxLen))
    (HC : Hid (∀ i, i < N → w.cell? ⟨b, o + i, none⟩ = some (.slice (pa i) (pl i) (pc i)))) :
    Calls Yapd.prog 18 #[.slice (some ⟨b, o, none⟩) N c, .int .i64 q] w fun e w' => RetB e (fun r => r = true ↔ ∀ i, i < N → pl i ≤ 32) ∧ w' = w := by
  go_enter Yapd.func18, Yapd.ntmps18
  go_wp2
  go_loop [5] (fun i => ∃ j : Nat, j ≤ N ∧ i = .int .i64 j ∧ Hid (∀ i, i < j → pl i ≤ 32)) (fun i => N - (intOf i).toNat)
  case atStart => exact ⟨0, by omega, rfl, fun i hi => by omega⟩
  case round =>
    obtain ⟨j, hj, rfl, HJ⟩ := hrel
    by_cases hlt : j < N
    · have c0 := HC.out j hlt
      have hm := Hm.out j hlt
      unfold maxLen at hm
      generalize hx : pl j = x at *
      have Hx : Hid (pl j = x) := hx
      clear hx
      by_cases h32 : 32 < x
      · go_wp2
        go_ret
        exact ⟨⟨_, rfl, by simp; exact ⟨j, hlt, by rw [Hx.out]; exact h32⟩⟩, rfl⟩
      · go_wp2
        go_round
        case rel => exact ⟨j + 1, by omega, by go_num, fun i hi => by by_cases e : i = j; (· subst e; rw [Hx.out]; omega); exact HJ.out i (by omega)⟩
        case measure => simp [intOf]; omega
    · go_wp2
      go_ret
      exact ⟨⟨_, rfl, by simp; exact fun i hi => HJ.out i (by omega)⟩, rfl⟩

/-- Every program's length is one that a machine can bear. -/
def Sized (N : Nat) (pl : Nat → Nat) : Prop := N ≤ maxLen ∧ ∀ i, i < N → pl i ≤ maxLen

theorem inBounds_any (w : World) (B : Nat) (v : Value) (N : Nat) (pl : Nat → Nat) (pg : Nat → Nat → Int × Int) (hv : ProgsAt B w v N pl pg) (hs : Sized N pl) (q : Int) :
    Calls Yapd.prog 18 #[v, .int .i64 q] w fun e w' => RetB e (fun r => r = true ↔ InB N pl q) ∧ w' = w := by
  obtain ⟨a, c, rfl, hv⟩ := hv
  by_cases h : 8 < N ∨ q < 0 ∨ 256 < q
  · refine (inBounds_out w a N c q hs.1 h).mono ?_
    rintro e w' ⟨rfl, rfl⟩
    refine ⟨⟨false, rfl, by simp; intro hb; obtain ⟨g1, g2, g3, _⟩ := hb; omega⟩, rfl⟩
  · by_cases h0 : N = 0
    · subst h0
      refine (inBounds_none w a c q (by omega) (by omega)).mono ?_
      rintro e w' ⟨rfl, rfl⟩
      exact ⟨⟨true, rfl, by simp; exact ⟨by omega, by omega, by omega, fun i hi => by omega⟩⟩, rfl⟩
    · obtain ⟨b, o, pv, rfl, _, hc⟩ := hv (by omega)
      have hpv : ∀ i, i < N → ∃ x : Option Addr × Nat, pv i = .slice x.1 (pl i) x.2 := fun i hi => by
        obtain ⟨a', c', e, _⟩ := (hc i hi).2
        exact ⟨(a', c'), e⟩
      have : ∃ f : Nat → Option Addr × Nat, ∀ i, i < N → pv i = .slice (f i).1 (pl i) (f i).2 :=
        ⟨fun i => if hi : i < N then Classical.choose (hpv i hi) else (none, 0), fun i hi => by simp only [dif_pos hi]; exact Classical.choose_spec (hpv i hi)⟩
      obtain ⟨f, hf⟩ := this
      refine (inBounds_in w b o N c q (by omega) (by omega) (by omega) pl (fun i => (f i).1) (fun i => (f i).2) hs.2 (fun i hi => by rw [(hc i hi).1, hf i hi])).mono ?_
      rintro e w' ⟨⟨r, rfl, hr⟩, rfl⟩
      exact ⟨⟨r, rfl, hr.trans ⟨fun g => ⟨by omega, by omega, by omega, g⟩, fun g => g.2.2.2⟩⟩, rfl⟩

/-- A kind that neither blocks nor kills. -/
def PlainK (kd : Int) : Prop := kd ≠ 2 ∧ kd ≠ 5 ∧ kd ≠ 4 ∧ kd ≠ 7 ∧ kd ≠ 8 ∧ kd ≠ 10 ∧ kd ≠ 9

set_option maxHeartbeats 400000 in
theorem plain_any (w : World) (kd : Int) : Calls Yapd.prog 45 #[.int .i64 kd] w fun e w' => RetB e (fun r => r = true → PlainK kd) ∧ w' = w := by
  by_cases h : PlainK kd
  · obtain ⟨a1, a2, a3, a4, a5, a6, a7⟩ := h
    have HP : Hid (PlainK kd) := ⟨a1, a2, a3, a4, a5, a6, a7⟩
    have b1 : (kd != 2) = true := by simp [a1]
    have b2 : (kd != 5) = true := by simp [a2]
    have b3 : (kd != 4) = true := by simp [a3]
    have b4 : (kd != 7) = true := by simp [a4]
    have b5 : (kd != 8) = true := by simp [a5]
    have b6 : (kd != 10) = true := by simp [a6]
    have b7 : (kd != 9) = true := by simp [a7]
    clear a1 a2 a3 a4 a5 a6 a7
    go_enter Yapd.func45, Yapd.ntmps45
    go_wp2
    go_ret
    exact ⟨⟨_, rfl, fun _ => HP.out⟩, rfl⟩
  · have hc : kd = 2 ∨ kd = 5 ∨ kd = 4 ∨ kd = 7 ∨ kd = 8 ∨ kd = 10 ∨ kd = 9 := by unfold PlainK at h; omega
    clear h
    rcases hc with rfl | rfl | rfl | rfl | rfl | rfl | rfl
    all_goals
      go_enter Yapd.func45, Yapd.ntmps45
      go_wp2
      go_ret
      exact ⟨⟨_, rfl, fun h => by simp at h⟩, rfl⟩
end Go.Proofs.Ygdapg
