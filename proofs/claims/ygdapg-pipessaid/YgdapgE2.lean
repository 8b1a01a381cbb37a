/-
  mustEnd, treated, ranInOrder, WALKED.
-/
import Derived.Test.YgdapgE1
set_option linter.unusedSimpArgs false
set_option linter.unusedVariables false
namespace Go.Proofs.Ygdapg
open Go.RowKit

def sumTo (f : Nat → Nat) : Nat → Nat
  | 0 => 0
  | n + 1 => sumTo f n + f n
theorem sumTo_le {f : Nat → Nat} {c : Nat} : ∀ n, (∀ i, i < n → f i ≤ c) → sumTo f n ≤ c * n
  | 0, _ => by simp [sumTo]
  | n + 1, h => by
    have h1 := sumTo_le n (fun i hi => h i (by omega))
    have h2 := h n (by omega)
    simp only [sumTo, Nat.mul_succ]; omega

/-- What mustEnd asks. -/
def MustEnd (N : Nat) (pl : Nat → Nat) (pg : Nat → Nat → Int × Int) (q : Int) : Prop :=
  (∀ i, i < N → ∀ j, j < pl i → PlainK (pg i j).1) ∧ (N : Int) + (sumTo pl N : Nat) ≤ q

set_option maxHeartbeats 1000000 in
theorem mustEnd_in (w : World) (B b o N c : Nat) (q : Int) (h1 : 0 ≤ q) (h2 : q ≤ 256) (hN : N ≤ 8) (pl : Nat → Nat) (pg : Nat → Nat → Int × Int) (pv : Nat → Value) (Hm : Hid (∀ i, i < N → pl i ≤ 32))
    (HC : Hid (∀ i, i < N → w.cell? ⟨b, o + i, none⟩ = some (pv i) ∧ ProgAt B w (pv i) (pl i) (pg i))) :
    Calls Yapd.prog 23 #[.slice (some ⟨b, o, none⟩) N c, .int .i64 q] w fun e w' => RetB e (fun r => r = true → MustEnd N pl pg q) ∧ w' = w := by
  go_enter Yapd.func23, Yapd.ntmps23
  go_wp2_with fail
  go_loop [5, 6] (fun s i => ∃ j : Nat, j ≤ N ∧ i = .int .i64 j ∧ s = .int .i64 ((N : Int) + (sumTo pl j : Nat)) ∧ Hid (∀ i, i < j → ∀ m, m < pl i → PlainK (pg i m).1)) (fun _ i => N - (intOf i).toNat)
  case atStart => exact ⟨0, by omega, rfl, by simp [sumTo], fun i hi => by omega⟩
  case round =>
    obtain ⟨j, hj, rfl, rfl, HJ⟩ := hrel
    have hsum : sumTo pl j ≤ 32 * j := sumTo_le j (fun i hi => Hm.out i (by omega))
    by_cases hlt : j < N
    · obtain ⟨c0, pa, pcap, hpv, hprog⟩ := HC.out j hlt
      rw [hpv] at c0
      have hx := Hm.out j hlt
      have HS : Hid (sumTo pl (j + 1) = sumTo pl j + pl j) := rfl
      have HP : Hid (0 < pl j → ∃ b o, pa = some ⟨b, o, none⟩ ∧ b < B ∧ ∀ i, i < pl j → w.cell? ⟨b, o + i * 2, none⟩ = some (.int .i64 (pg j i).1) ∧ w.cell? ⟨b, o + i * 2 + 1, none⟩ = some (.int .i64 (pg j i).2)) := hprog
      clear hprog hpv
      generalize hxx : pl j = x at *
      have Hx : Hid (pl j = x) := hxx
      clear hxx
      generalize sumTo pl j = S at *
      go_wp2_with fail
      go_loop [7] (fun i => ∃ m : Nat, m ≤ x ∧ i = .int .i64 m ∧ Hid (∀ i, i < m → PlainK (pg j i).1)) (fun i => x - (intOf i).toNat)
      case atStart => exact ⟨0, by omega, rfl, fun i hi => by omega⟩
      case round =>
        obtain ⟨m, hm, rfl, HM⟩ := hrel
        by_cases hmx : m < x
        · obtain ⟨b2, o2, rfl, _, hc2⟩ := HP.out (by omega)
          have c2 := (hc2 m hmx).1
          clear hc2
          go_wp2_with fail
          refine (plain_any _ _).mono ?_
          rintro e w' ⟨⟨r, rfl, hr⟩, hw⟩
          subst w'
          have Hr : Hid (r = true → PlainK (pg j m).1) := hr
          clear hr
          cases r
          · go_wp2_with fail
            go_ret
            exact ⟨⟨false, rfl, fun h => by simp at h⟩, rfl⟩
          · go_wp2_with fail
            go_round
            case rel => exact ⟨m + 1, by omega, by go_num, fun i hi => by by_cases e : i = m; (· subst e; first | exact Hr.out rfl | exact Hr.out trivial); exact HM.out i (by omega)⟩
            case measure => simp [intOf]; omega
        · go_wp2_with fail
          go_round
          case rel => exact ⟨j + 1, by omega, by go_num, by rw [HS.out]; go_num, fun i hi => by by_cases e : i = j; (· subst e; rw [Hx.out]; exact fun m' hm' => HM.out m' (by omega)); exact HJ.out i (by omega)⟩
          case measure => simp [intOf]; omega
    · have hj' : j = N := by omega
      subst hj'
      go_wp2_with fail
      go_ret
      exact ⟨⟨_, rfl, fun h => ⟨HJ.out, by simpa using h⟩⟩, rfl⟩

set_option maxHeartbeats 400000 in
theorem mustEnd_none (w : World) (a : Option Addr) (c : Nat) (q : Int) (h1 : 0 ≤ q) (h2 : q ≤ 256) (pl : Nat → Nat) (pg : Nat → Nat → Int × Int) :
    Calls Yapd.prog 23 #[.slice a 0 c, .int .i64 q] w fun e w' => RetB e (fun r => r = true → MustEnd 0 pl pg q) ∧ w' = w := by
  go_enter Yapd.func23, Yapd.ntmps23
  go_wp2
  go_loop [5, 6] (fun s i => s = .int .i64 0 ∧ i = .int .i64 0) (fun _ i => 0)
  case atStart => exact ⟨rfl, rfl⟩
  case round =>
    obtain ⟨rfl, rfl⟩ := hrel
    go_wp2
    go_ret
    exact ⟨⟨_, rfl, fun _ => ⟨fun i hi => by omega, by simp [sumTo]; omega⟩⟩, rfl⟩

theorem mustEnd_any (w : World) (B : Nat) (v : Value) (N : Nat) (pl : Nat → Nat) (pg : Nat → Nat → Int × Int) (hv : ProgsAt B w v N pl pg) (q : Int) (hb : InB N pl q) :
    Calls Yapd.prog 23 #[v, .int .i64 q] w fun e w' => RetB e (fun r => r = true → MustEnd N pl pg q) ∧ w' = w := by
  obtain ⟨a, c, rfl, hv⟩ := hv
  obtain ⟨h1, h2, h3, h4⟩ := hb
  by_cases h0 : N = 0
  · subst h0
    exact mustEnd_none w a c q h2 h3 pl pg
  · obtain ⟨b, o, pv, rfl, _, hc⟩ := hv (by omega)
    exact mustEnd_in w B b o N c q h2 h3 h1 pl pg pv h4 hc

/-! ### treated -/
set_option maxHeartbeats 400000 in
theorem treated_end (w : World) (l c : Nat) (a : Option Addr) (pc n : Nat) (hl : l ≤ 32) (hpc : l ≤ pc) (hpc' : pc ≤ 1000) :
    Calls Yapd.prog 63 #[.slice a l c, .int .i64 pc, .int .i64 n] w fun e w' => e = .returned (.int .i64 6) ∧ Chg No w w' := by
  go_enter Yapd.func63, Yapd.ntmps63
  go_wp2
  go_ret
  exact ⟨rfl, Chg.refl _ _⟩

set_option maxHeartbeats 1000000 in
theorem treated_in (w : World) (b o l c : Nat) (pc n : Nat) (hl : l ≤ 32) (hpc : pc < l) (hn : n ≤ 8) (kd a : Int) (hk : PlainK kd)
    (h1 : w.cell? ⟨b, o + pc * 2, none⟩ = some (.int .i64 kd)) (h2 : w.cell? ⟨b, o + pc * 2 + 1, none⟩ = some (.int .i64 a)) (R : Int)
    (hR : R = if kd < 0 ∨ 11 ≤ kd then 6 else if kd = 3 ∧ (a < 1 ∨ 4 < a) then 6 else kd) :
    Calls Yapd.prog 63 #[.slice (some ⟨b, o, none⟩) l c, .int .i64 pc, .int .i64 n] w fun e w' => e = .returned (.int .i64 R) ∧ Chg No w w' := by
  have hn1 := cell_lt h1
  obtain ⟨k2, k5, k4, k7, k8, k10, k9⟩ := hk
  have b2 : (kd == 2) = false := by simp [k2]
  have b7 : (kd == 7) = false := by simp [k7]
  have b8 : (kd == 8) = false := by simp [k8]
  clear k2 k5 k4 k7 k8 k10 k9
  by_cases hA : kd < 0 ∨ 11 ≤ kd
  · rw [if_pos hA] at hR
    subst hR
    rcases hA with hA | hA
    all_goals
      go_enter Yapd.func63, Yapd.ntmps63
      go_wp2
      go_ret
      exact ⟨rfl, (Chg.refl _ _).alloc _⟩
  · rw [if_neg hA] at hR
    have hA1 : 0 ≤ kd := by omega
    have hA2 : kd < 11 := by omega
    clear hA
    by_cases hB : kd = 3
    · subst hB
      clear b2 b7 b8
      by_cases hC : a < 1 ∨ 4 < a
      · rw [if_pos ⟨rfl, hC⟩] at hR
        subst hR
        rcases hC with hC | hC
        all_goals
          go_enter Yapd.func63, Yapd.ntmps63
          go_wp2
          go_ret
          exact ⟨rfl, (Chg.refl _ _).alloc _⟩
      · rw [if_neg (fun h => hC h.2)] at hR
        subst hR
        have hC1 : 1 ≤ a := by omega
        have hC2 : a ≤ 4 := by omega
        clear hC
        go_enter Yapd.func63, Yapd.ntmps63
        go_wp2
        go_ret
        exact ⟨rfl, (Chg.refl _ _).alloc _⟩
    · rw [if_neg (fun h => hB h.1)] at hR
      subst hR
      have b3 : (R == 3) = false := by simp [hB]
      clear hB
      go_enter Yapd.func63, Yapd.ntmps63
      go_wp2
      go_ret
      exact ⟨rfl, (Chg.refl _ _).alloc _⟩

theorem treated_any (w : World) (B : Nat) (v : Value) (l : Nat) (g : Nat → Int × Int) (hv : ProgAt B w v l g) (pc n : Nat) (hl : l ≤ 32) (hpc : pc ≤ 1000) (hn : n ≤ 8) (hp : ∀ j, j < l → PlainK (g j).1) :
    Calls Yapd.prog 63 #[v, .int .i64 pc, .int .i64 n] w fun e w' => e = .returned (.int .i64 (fetchK n l g pc).1) ∧ Chg No w w' := by
  obtain ⟨a, c, rfl, hv⟩ := hv
  by_cases h : l ≤ pc
  · refine (treated_end w l c a pc n hl h hpc).mono ?_
    rintro e w' ⟨rfl, hc⟩
    exact ⟨by simp [fetchK, h], hc⟩
  · obtain ⟨b, o, rfl, _, hc⟩ := hv (by omega)
    obtain ⟨c1, c2⟩ := hc pc (by omega)
    have hk := hp pc (by omega)
    refine treated_in w b o l c pc n hl (by omega) hn _ _ hk c1 c2 _ ?_
    obtain ⟨k2, k5, k4, k7, k8, k10, k9⟩ := hk
    rw [fetchK, if_neg h]
    split
    · rfl
    · by_cases h3 : (g pc).1 = 3
      · by_cases h4 : (g pc).2 < 1 ∨ 4 < (g pc).2
        · rw [if_pos ⟨.inr h3, h4⟩, if_pos ⟨h3, h4⟩]
        · rw [if_neg (fun h => h4 h.2), if_neg (by omega), if_neg (fun h => h4 h.2)]
      · rw [if_neg (by omega), if_neg (by omega), if_neg (fun h => h3 h.1)]
end Go.Proofs.Ygdapg
