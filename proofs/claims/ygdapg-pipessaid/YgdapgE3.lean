/-
  ranInOrder, ended, WALKED.
-/
import Derived.Test.YgdapgE2
set_option linter.unusedSimpArgs false
set_option linter.unusedVariables false
namespace Go.Proofs.Ygdapg
open Go.RowKit

/-- How many of the first i entries are process p's. -/
def cntp (tr : Nat → Int) (p : Nat) : Nat → Nat
  | 0 => 0
  | i + 1 => cntp tr p i + if tr i / 16 = (p : Int) then 1 else 0
theorem cntp_le (tr : Nat → Int) (p : Nat) : ∀ i, cntp tr p i ≤ i
  | 0 => by simp [cntp]
  | i + 1 => by have := cntp_le tr p i; simp only [cntp]; split <;> omega

/-- The entries of p are the kinds T 0, T 1, .. up to and with the first 6. -/
def RanOk (tr : Nat → Int) (m : Nat) (p : Nat) (T : Nat → Int) : Prop :=
  (∀ i, i < m → tr i / 16 = (p : Int) → tr i % 16 = T (cntp tr p i) ∧ ¬ (0 < cntp tr p i ∧ T (cntp tr p i - 1) = 6)) ∧ (0 < cntp tr p m ∧ T (cntp tr p m - 1) = 6)

set_option maxHeartbeats 1000000 in
theorem ranInOrder_any (w : World) (B : Nat) (v : Value) (l : Nat) (g : Nat → Int × Int) (hv : ProgAt B w v l g) (hB : B ≤ w.heap.size) (hl : l ≤ 32) (hp : ∀ j, j < l → PlainK (g j).1) (p n m tb c : Nat) (hp8 : p ≤ 8) (hn : n ≤ 8) (hm : m ≤ 256) (tr : Nat → Int)
    (htr : ∀ i, i < m → w.cell? ⟨tb, i, none⟩ = some (.int .i64 (tr i))) (htb : 0 < m → tb < w.heap.size) (hbd : ∀ i, i < m → 0 ≤ tr i ∧ tr i ≤ 1000) (hok : RanOk tr m p (fun c => (fetchK n l g c).1)) :
    Calls Yapd.prog 46 #[.int .i64 p, v, .int .i64 n, .slice (some ⟨tb, 0, none⟩) m c] w fun e w' => e = .returned (.bool true) ∧ Chg No w w' := by
  have Hv : Hid (ProgAt B w v l g) := hv
  have Hp : Hid (∀ j, j < l → PlainK (g j).1) := hp
  have Htr : Hid (∀ i, i < m → w.cell? ⟨tb, i, none⟩ = some (.int .i64 (tr i))) := htr
  have Htb : Hid (0 < m → tb < w.heap.size) := htb
  have Hbd : Hid (∀ i, i < m → 0 ≤ tr i ∧ tr i ≤ 1000) := hbd
  have Hok : Hid (RanOk tr m p (fun c => (fetchK n l g c).1)) := hok
  have HB : Hid (B ≤ w.heap.size) := hB
  clear hv hp htr htb hbd hok hB
  go_enter Yapd.func46, Yapd.ntmps46
  go_wp2_with fail
  go_loopw [9, 10, 11] (fun s x i wr => ∃ j : Nat, ∃ ex : Bool, j ≤ m ∧ i = .int .i64 j ∧ s = .int .i64 (cntp tr p j : Nat) ∧ x = .bool ex ∧ Hid (ex = true ↔ (0 < cntp tr p j ∧ (fetchK n l g (cntp tr p j - 1)).1 = 6)) ∧ Hid (Chg No w wr)) (fun _ _ i _ => m - (intOf i).toNat)
  case atStart => exact ⟨0, false, by omega, rfl, rfl, rfl, by unfold Hid; simp [cntp], Chg.refl _ _⟩
  case round =>
    obtain ⟨j, ex, hj, rfl, rfl, rfl, HX, HC⟩ := hrel
    have hcj := cntp_le tr p j
    by_cases hlt : j < m
    · have c0 : wr.cell? ⟨tb, j, none⟩ = some (.int .i64 (tr j)) := by rw [HC.out.cell (p := ⟨tb, j, none⟩) (Htb.out (by omega)) (fun h => h)]; exact Htr.out j hlt
      obtain ⟨hb0, hb1⟩ := Hbd.out j hlt
      by_cases he : tr j / 16 = (p : Int)
      · obtain ⟨g1, g2⟩ := Hok.out.1 j hlt he
        have hex : ex = false := by
          cases ex
          · rfl
          · exact absurd (HX.out.1 rfl) g2
        subst hex
        have HS : Hid (cntp tr p (j + 1) = cntp tr p j + 1) := by unfold Hid; simp [cntp, he]
        have he' : (tr j / 16 != (p : Int)) = false := by simp [he]
        have G1 : Hid (tr j % 16 = (fetchK n l g (cntp tr p j)).1) := g1
        clear he g1 g2 HX
        generalize cntp tr p j = C at *
        go_wp2_with fail
        refine (treated_any _ B v l g (Hv.out.below ((HC.out.below (B := w.heap.size) (Nat.le_refl _) (fun _ h => h.elim)).mono HB.out)) C n hl (by omega) hn Hp.out).mono ?_
        rintro e w1 ⟨rfl, HC1⟩
        have HC2 : Hid (Chg No w w1) := HC.out.trans HC1
        have c1 : w1.cell? ⟨tb, j, none⟩ = some (.int .i64 (tr j)) := by rw [HC2.out.cell (p := ⟨tb, j, none⟩) (Htb.out (by omega)) (fun h => h)]; exact Htr.out j hlt
        have hne : (tr j % 16 != (fetchK n l g C).1) = false := by rw [← G1.out]; simp
        clear HC1 c0
        generalize hT : (fetchK n l g C).1 = t at *
        have HT : Hid ((fetchK n l g C).1 = t) := hT
        clear hT
        go_wp2_with fail
        go_roundw
        case rel => exact ⟨j + 1, (t == 6), by omega, by go_num, by rw [HS.out]; go_num, rfl, by unfold Hid; rw [HS.out]; simp [HT.out], HC2⟩
        case measure => simp [intOf]; omega
      · have HS : Hid (cntp tr p (j + 1) = cntp tr p j) := by unfold Hid; simp [cntp, he]
        have he' : (tr j / 16 != (p : Int)) = true := by simp [he]
        clear he
        generalize hC : cntp tr p j = C at *
        have HCC : Hid (cntp tr p j = C) := hC
        clear hC
        go_wp2_with fail
        go_roundw
        case rel => exact ⟨j + 1, ex, by omega, by go_num, by rw [HS.out], rfl, by unfold Hid; rw [HS.out]; exact HX.out, HC⟩
        case measure => simp [intOf]; omega
    · have hj' : j = m := by omega
      subst hj'
      have hex : ex = true := HX.out.2 Hok.out.2
      subst hex
      clear HX
      go_wp2_with fail
      go_ret
      exact ⟨rfl, HC.out⟩
end Go.Proofs.Ygdapg
