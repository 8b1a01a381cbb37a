/-
  THE KERNEL's SMALL FUNCTIONS, WALKED: wake.
-/
import Derived.Test.YgdapgK1
set_option linter.unusedSimpArgs false
set_option linter.unusedVariables false
namespace Go.Proofs.Ygdapg
open Go.RowKit

/-- 'wake' carried out on the processes below j. -/
def wakeTo (k : KS) (on : Int) (j : Nat) : KS :=
  { k with st := fun i => if i < j ∧ k.st i = 2 ∧ k.wo i = on then 0 else k.st i, wo := fun i => if i < j ∧ k.st i = 2 ∧ k.wo i = on then 0 else k.wo i }
def wake (k : KS) (on : Int) : KS := wakeTo k on k.n

theorem wakeTo_zero (k : KS) (on : Int) : wakeTo k on 0 = k := by
  unfold wakeTo; simp

theorem wakeTo_hit (k : KS) (on : Int) (j : Nat) (h1 : k.st j = 2) (h2 : k.wo j = on) :
    wakeTo k on (j + 1) = { wakeTo k on j with st := upd (wakeTo k on j).st j 0, wo := upd (wakeTo k on j).wo j 0 } := by
  unfold wakeTo
  congr 1
  · funext i
    by_cases hi : i = j
    · subst hi; simp [upd, h1, h2]
    · have : (i < j + 1) ↔ (i < j) := by omega
      simp [upd, hi, this]
  · funext i
    by_cases hi : i = j
    · subst hi; simp [upd, h1, h2]
    · have : (i < j + 1) ↔ (i < j) := by omega
      simp [upd, hi, this]

theorem wakeTo_miss (k : KS) (on : Int) (j : Nat) (h : ¬ (k.st j = 2 ∧ k.wo j = on)) : wakeTo k on (j + 1) = wakeTo k on j := by
  unfold wakeTo
  congr 1
  · funext i
    by_cases hi : i = j
    · subst hi; simp [h]
    · have : (i < j + 1) ↔ (i < j) := by omega
      simp [this]
  · funext i
    by_cases hi : i = j
    · subst hi; simp [h]
    · have : (i < j + 1) ↔ (i < j) := by omega
      simp [this]

set_option maxHeartbeats 400000 in
theorem wake_any (w : World) (L : Lay) (k : KS) (hk : KAt w L k) (on : Int) :
    Calls Yapd.prog 71 #[.pointer (some ⟨L.kb, 0, none⟩), .int .i64 on] w fun e w' => e = .returned (.tuple #[]) ∧
      KAt w' L (wake k on) ∧ Chg L.mem w w' := by
  have hn := hk.hn
  have H : Hid (KAt w L k) := hk
  clear hk
  obtain ⟨⟨n1, -, -, n4, -⟩, ⟨-, -, n11, -⟩, -⟩ := H.out.ne
  go_enter Yapd.func71, Yapd.ntmps71
  go_wp2
  go_loopw [4] (fun i wr => ∃ j : Nat, j ≤ k.n ∧ i = .int .i64 j ∧ Hid (KAt wr L (wakeTo k on j)) ∧ Hid (Chg L.mem w wr)) (fun i _ => k.n - (intOf i).toNat)
  case atStart => exact ⟨0, Nat.zero_le _, rfl, by rw [wakeTo_zero]; exact H.out, Chg.refl _ _⟩
  case round =>
    obtain ⟨j, hj, rfl, HK, HC⟩ := hrel
    have f0 := HK.out.f0
    have f3 := HK.out.f3
    simp only [wakeTo] at f0 f3
    by_cases hlt : j < k.n
    · have c0 := HK.out.cs (i := j) hlt
      have c3 := HK.out.co (i := j) hlt
      have z0 := HK.out.zs j
      have z3 := HK.out.zo j
      simp only [wakeTo, Nat.lt_irrefl, false_and, if_false] at c0 c3
      by_cases h1 : k.st j = 2
      · by_cases h2 : k.wo j = on
        · have E : Hid (wakeTo k on (j + 1) = { wakeTo k on j with st := upd (wakeTo k on j).st j 0, wo := upd (wakeTo k on j).wo j 0 }) := wakeTo_hit k on j h1 h2
          have h2' : (k.wo j == on) = true := by simp [h2]
          clear h2
          go_wp2
          go_roundw
          case rel => exact ⟨j + 1, by omega, by go_num, by unfold Hid; rw [E.out]; exact (HK.out.setSt j 0).setWo j 0, (HC.out.setCell (.inl (by simp [Lay.mem, Lay.list])) _).setCell (.inl (by simp [Lay.mem, Lay.list])) _⟩
          case measure => simp [intOf]; omega
        · have E : Hid (wakeTo k on (j + 1) = wakeTo k on j) := wakeTo_miss k on j (by simp [h2])
          have h2' : (k.wo j == on) = false := by simp [h2]
          clear h2
          go_wp2
          go_roundw
          case rel => exact ⟨j + 1, by omega, by go_num, by unfold Hid; rw [E.out]; exact HK.out, HC⟩
          case measure => simp [intOf]; omega
      · have E : Hid (wakeTo k on (j + 1) = wakeTo k on j) := wakeTo_miss k on j (by simp [h1])
        have h1' : (k.st j == 2) = false := by simp [h1]
        clear h1
        go_wp2
        go_roundw
        case rel => exact ⟨j + 1, by omega, by go_num, by unfold Hid; rw [E.out]; exact HK.out, HC⟩
        case measure => simp [intOf]; omega
    · have hj' : j = k.n := by omega
      subst hj'
      go_wp2
      go_end0
      exact ⟨rfl, HK.out, HC.out⟩
end Go.Proofs.Ygdapg
