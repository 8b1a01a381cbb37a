/-
  THE KERNEL's SMALL FUNCTIONS, WALKED: fetch, operand.
-/
import Derived.Test.YgdapgK3
set_option linter.unusedSimpArgs false
set_option linter.unusedVariables false
namespace Go.Proofs.Ygdapg
open Go.RowKit

theorem cell_lt {w : World} {b i : Nat} {v : Value} (h : w.cell? ⟨b, i, none⟩ = some v) : b < w.heap.size := by
  rcases Nat.lt_or_ge b w.heap.size with hlt | hge
  · exact hlt
  · simp [World.cell?, Array.getElem?_eq_none hge] at h

/-- Nothing old has turned. -/
def No : Nat → Prop := fun _ => False

/-- The value v is a program of l operations, g j the j-th, in blocks below B. -/
def ProgAt (B : Nat) (w : World) (v : Value) (l : Nat) (g : Nat → Int × Int) : Prop :=
  ∃ a c, v = .slice a l c ∧ (0 < l → ∃ b o, a = some ⟨b, o, none⟩ ∧ b < B ∧ ∀ j, j < l → w.cell? ⟨b, o + j * 2, none⟩ = some (.int .i64 (g j).1) ∧ w.cell? ⟨b, o + j * 2 + 1, none⟩ = some (.int .i64 (g j).2))

theorem ProgAt.below {B : Nat} {w w' : World} {v : Value} {l : Nat} {g : Nat → Int × Int} (h : ProgAt B w v l g) (hb : Below B w w') : ProgAt B w' v l g := by
  obtain ⟨a, c, rfl, h⟩ := h
  refine ⟨a, c, rfl, fun hl => ?_⟩
  obtain ⟨b, o, rfl, hlt, hc⟩ := h hl
  refine ⟨b, o, rfl, hlt, fun j hj => ?_⟩
  rw [hb.cell (p := ⟨b, o + j * 2, none⟩) hlt, hb.cell (p := ⟨b, o + j * 2 + 1, none⟩) hlt]
  exact hc j hj

/-- The operation at pc as the kernel treats it: its kind, its operand, whether it was well formed. -/
def fetchK (n l : Nat) (g : Nat → Int × Int) (pc : Nat) : Int × Int × Bool :=
  if l ≤ pc then (6, 0, true)
  else if (g pc).1 < 0 ∨ 11 ≤ (g pc).1 then (6, 0, false)
  else if ((g pc).1 = 2 ∨ (g pc).1 = 3) ∧ ((g pc).2 < 1 ∨ 4 < (g pc).2) then (6, 0, false)
  else if ((g pc).1 = 7 ∨ (g pc).1 = 8) ∧ ¬ (0 ≤ (g pc).2 ∧ (g pc).2 < (n : Int)) then (6, 0, false)
  else ((g pc).1, (g pc).2, true)

set_option maxHeartbeats 400000 in
theorem fetch_end (w : World) (b l c : Nat) (a : Option Addr) (pc : Nat) (hl : l ≤ 32) (hpc : l ≤ pc) (hpc' : pc ≤ 32) :
    Calls Yapd.prog 69 #[.pointer (some ⟨b, 0, none⟩), .slice a l c, .int .i64 pc] w fun e w' =>
      e = .returned (.tuple #[.agg #[.int .i64 6, .int .i64 0], .bool true]) ∧ Chg No w w' := by
  go_enter Yapd.func69, Yapd.ntmps69
  go_wp2
  exact bodyPost_ret (v := .tuple #[.agg #[.int .i64 6, .int .i64 0], .bool true]) (by simp [results, Yapd.results69, go_sem]) rfl ⟨rfl, (Chg.refl _ _).alloc _⟩

set_option maxHeartbeats 1000000 in
theorem fetch_in (w : World) (L : Lay) (k : KS) (H : Hid (KAt w L k)) (b o l c : Nat) (pc : Nat) (hl : l ≤ 32) (hpc : pc < l) (kd a : Int)
    (h1 : w.cell? ⟨b, o + pc * 2, none⟩ = some (.int .i64 kd)) (h2 : w.cell? ⟨b, o + pc * 2 + 1, none⟩ = some (.int .i64 a)) (R : Int × Int × Bool)
    (hR : R = if kd < 0 ∨ 11 ≤ kd then (6, 0, false) else if (kd = 2 ∨ kd = 3) ∧ (a < 1 ∨ 4 < a) then (6, 0, false)
      else if (kd = 7 ∨ kd = 8) ∧ ¬ (0 ≤ a ∧ a < (k.n : Int)) then (6, 0, false) else (kd, a, true)) :
    Calls Yapd.prog 69 #[.pointer (some ⟨L.kb, 0, none⟩), .slice (some ⟨b, o, none⟩) l c, .int .i64 pc] w fun e w' =>
      e = .returned (.tuple #[.agg #[.int .i64 R.1, .int .i64 R.2.1], .bool R.2.2]) ∧ Chg No w w' := by
  have hn1 := cell_lt h1
  by_cases hA : kd < 0 ∨ 11 ≤ kd
  · rw [if_pos hA] at hR
    subst hR
    have hb : (decide (kd < 0) || decide (11 ≤ kd)) = true := by simpa using hA
    rcases hA with hA | hA
    · go_enter Yapd.func69, Yapd.ntmps69
      go_wp2
      exact bodyPost_ret (v := .tuple #[.agg #[.int .i64 6, .int .i64 0], .bool false]) (by simp [results, Yapd.results69, go_sem]) rfl ⟨rfl, ((Chg.refl _ _).alloc _).alloc _⟩
    · go_enter Yapd.func69, Yapd.ntmps69
      go_wp2
      exact bodyPost_ret (v := .tuple #[.agg #[.int .i64 6, .int .i64 0], .bool false]) (by simp [results, Yapd.results69, go_sem]) rfl ⟨rfl, ((Chg.refl _ _).alloc _).alloc _⟩
  · rw [if_neg hA] at hR
    have hA1 : 0 ≤ kd := by omega
    have hA2 : kd < 11 := by omega
    clear hA
    by_cases hB : kd = 2 ∨ kd = 3
    · have hB' : (kd == 2 || kd == 3) = true := by simpa using hB
      by_cases hC : a < 1 ∨ 4 < a
      · rw [if_pos ⟨hB, hC⟩] at hR
        subst hR
        have hC' : (decide (a < 1) || decide (4 < a)) = true := by simpa using hC
        rcases hB with rfl | rfl <;> rcases hC with hC | hC
        all_goals
          go_enter Yapd.func69, Yapd.ntmps69
          go_wp2
          exact bodyPost_ret (v := .tuple #[.agg #[.int .i64 6, .int .i64 0], .bool false]) (by simp [results, Yapd.results69, go_sem]) rfl ⟨rfl, ((Chg.refl _ _).alloc _).alloc _⟩
      · rw [if_neg (fun h => hC h.2), if_neg (by omega)] at hR
        subst hR
        have hC1 : 1 ≤ a := by omega
        have hC2 : a ≤ 4 := by omega
        clear hC hB'
        rcases hB with rfl | rfl
        all_goals
          go_enter Yapd.func69, Yapd.ntmps69
          go_wp2
          exact bodyPost_ret (v := .tuple #[.agg #[.int .i64 _, .int .i64 a], .bool true]) (by simp [results, Yapd.results69, go_sem]) rfl ⟨rfl, ((Chg.refl _ _).alloc _).alloc _⟩
    · rw [if_neg (fun h => hB h.1)] at hR
      have b2 : (kd == 2) = false := by simp; omega
      have b3 : (kd == 3) = false := by simp; omega
      clear hB
      by_cases hD : kd = 7 ∨ kd = 8
      · by_cases hE : 0 ≤ a ∧ a < (k.n : Int)
        · rw [if_neg (fun h => h.2 hE)] at hR
          subst hR
          have hE' : decide (0 ≤ a ∧ a < (k.n : Int)) = true := by simp [hE]
          clear hE
          rcases hD with rfl | rfl
          all_goals
            go_enter Yapd.func69, Yapd.ntmps69
            go_wp2_with fail
            refine (has_any _ L k ((H.out.alloc _).alloc _) a).mono ?_
            rintro e w' ⟨rfl, rfl⟩
            rw [hE']
            go_wp2_with fail
            exact bodyPost_ret (v := .tuple #[.agg #[.int .i64 _, .int .i64 a], .bool true]) (by simp [results, Yapd.results69, go_sem]) rfl ⟨rfl, ((Chg.refl _ _).alloc _).alloc _⟩
        · rw [if_pos ⟨hD, hE⟩] at hR
          subst hR
          have hE' : decide (0 ≤ a ∧ a < (k.n : Int)) = false := by simpa using hE
          clear hE
          rcases hD with rfl | rfl
          all_goals
            go_enter Yapd.func69, Yapd.ntmps69
            go_wp2_with fail
            refine (has_any _ L k ((H.out.alloc _).alloc _) a).mono ?_
            rintro e w' ⟨rfl, rfl⟩
            rw [hE']
            go_wp2_with fail
            exact bodyPost_ret (v := .tuple #[.agg #[.int .i64 6, .int .i64 0], .bool false]) (by simp [results, Yapd.results69, go_sem]) rfl ⟨rfl, ((Chg.refl _ _).alloc _).alloc _⟩
      · rw [if_neg (fun h => hD h.1)] at hR
        subst hR
        have b7 : (kd == 7) = false := by simp; omega
        have b8 : (kd == 8) = false := by simp; omega
        clear hD
        go_enter Yapd.func69, Yapd.ntmps69
        go_wp2
        exact bodyPost_ret (v := .tuple #[.agg #[.int .i64 kd, .int .i64 a], .bool true]) (by simp [results, Yapd.results69, go_sem]) rfl ⟨rfl, ((Chg.refl _ _).alloc _).alloc _⟩

theorem fetch_any (w : World) (L : Lay) (k : KS) (hk : KAt w L k) (B : Nat) (v : Value) (l : Nat) (g : Nat → Int × Int) (hv : ProgAt B w v l g) (pc : Nat) (hl : l ≤ 32) (hpc : pc ≤ 32) :
    Calls Yapd.prog 69 #[.pointer (some ⟨L.kb, 0, none⟩), v, .int .i64 pc] w fun e w' =>
      e = .returned (.tuple #[.agg #[.int .i64 (fetchK k.n l g pc).1, .int .i64 (fetchK k.n l g pc).2.1], .bool (fetchK k.n l g pc).2.2]) ∧ Chg No w w' := by
  obtain ⟨a, c, rfl, hv⟩ := hv
  by_cases h : l ≤ pc
  · refine (fetch_end w L.kb l c a pc hl h hpc).mono ?_
    rintro e w' ⟨rfl, hc⟩
    exact ⟨by simp [fetchK, h], hc⟩
  · obtain ⟨b, o, rfl, _, hc⟩ := hv (by omega)
    obtain ⟨c1, c2⟩ := hc pc (by omega)
    exact fetch_in w L k hk b o l c pc hl (by omega) _ _ c1 c2 _ (by rw [fetchK, if_neg h])

/-- The operand of the operation at pc. -/
def operandK (l : Nat) (g : Nat → Int × Int) (pc : Nat) : Int := if pc < l then (g pc).2 else 0

set_option maxHeartbeats 400000 in
theorem operand_end (w : World) (l c : Nat) (a : Option Addr) (pc : Nat) (hl : l ≤ 32) (hpc : l ≤ pc) :
    Calls Yapd.prog 61 #[.slice a l c, .int .i64 pc] w fun e w' => e = .returned (.int .i64 0) ∧ w' = w := by
  go_enter Yapd.func61, Yapd.ntmps61
  go_wp2
  go_ret
  exact ⟨rfl, rfl⟩
set_option maxHeartbeats 400000 in
theorem operand_in (w : World) (b o l c : Nat) (pc : Nat) (hl : l ≤ 32) (hpc : pc < l) (kd a : Int)
    (h1 : w.cell? ⟨b, o + pc * 2, none⟩ = some (.int .i64 kd)) (h2 : w.cell? ⟨b, o + pc * 2 + 1, none⟩ = some (.int .i64 a)) :
    Calls Yapd.prog 61 #[.slice (some ⟨b, o, none⟩) l c, .int .i64 pc] w fun e w' => e = .returned (.int .i64 a) ∧ w' = w := by
  go_enter Yapd.func61, Yapd.ntmps61
  go_wp2
  go_ret
  exact ⟨rfl, rfl⟩
theorem operand_any (w : World) (B : Nat) (v : Value) (l : Nat) (g : Nat → Int × Int) (hv : ProgAt B w v l g) (pc : Nat) (hl : l ≤ 32) :
    Calls Yapd.prog 61 #[v, .int .i64 pc] w fun e w' => e = .returned (.int .i64 (operandK l g pc)) ∧ w' = w := by
  obtain ⟨a, c, rfl, hv⟩ := hv
  by_cases h : l ≤ pc
  · refine (operand_end w l c a pc hl h).mono ?_
    rintro e w' ⟨rfl, rfl⟩
    exact ⟨by rw [operandK, if_neg (by omega)], rfl⟩
  · obtain ⟨b, o, rfl, _, hc⟩ := hv (by omega)
    obtain ⟨c1, c2⟩ := hc pc (by omega)
    refine (operand_in w b o l c pc hl (by omega) _ _ c1 c2).mono ?_
    rintro e w' ⟨rfl, rfl⟩
    exact ⟨by rw [operandK, if_pos (by omega)], rfl⟩
end Go.Proofs.Ygdapg
