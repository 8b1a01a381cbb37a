/-
  PickPrio, WALKED.
-/
import Derived.Test.YgdapgP2
import Derived.Test.YgdapgM1
set_option linter.unusedSimpArgs false
set_option linter.unusedVariables false
namespace Go.Proofs.Ygdapg
open Go.RowKit

/-- What PickPrio answers. -/
def PrioOk (pr : Nat → Int) (k : KS) (r : Int) : Prop :=
  (r = -1 ∧ ∀ i, i < k.n → k.st i ≠ 0) ∨
  ∃ q : Nat, r = q ∧ q < k.n ∧ k.st q = 0 ∧ (∀ i, i < k.n → k.st i = 0 → pr i ≤ pr q) ∧
    ((lastOfK k pr (pr q) < (q : Int) ∧ ∀ i : Nat, lastOfK k pr (pr q) < (i : Int) → i < q → ¬ (k.st i = 0 ∧ pr i = pr q)) ∨
    ((q : Int) ≤ lastOfK k pr (pr q) ∧ (∀ i : Nat, i < k.n → lastOfK k pr (pr q) < (i : Int) → ¬ (k.st i = 0 ∧ pr i = pr q)) ∧ ∀ i, i < q → ¬ (k.st i = 0 ∧ pr i = pr q)))
theorem prioOk_picks (pr : Nat → Int) : Picks (PrioOk pr) := fun k p h => by
  rcases h with ⟨h, _⟩ | ⟨q, hq, h1, h2, _⟩
  · omega
  · have : p = q := by omega
    subst this
    exact ⟨h1, h2⟩

/-- The best of the first j. -/
def Best (st pr : Nat → Int) (j : Nat) (b : Int) : Prop :=
  (b = -1 ∧ ∀ i, i < j → st i ≠ 0) ∨ ∃ x : Nat, b = x ∧ x < j ∧ st x = 0 ∧ (∀ i, i < j → st i = 0 → pr i ≤ pr x) ∧ ∀ i, i < x → st i = 0 → pr i < pr x
theorem Best.skip {st pr : Nat → Int} {j : Nat} {b : Int} (h : Best st pr j b) (hs : st j ≠ 0) : Best st pr (j + 1) b := by
  rcases h with ⟨h1, h2⟩ | ⟨x, h1, h2, h3, h4, h5⟩
  · refine .inl ⟨h1, fun i hi => ?_⟩
    by_cases e : i = j
    · subst e; exact hs
    · exact h2 i (by omega)
  · refine .inr ⟨x, h1, by omega, h3, fun i hi h0 => ?_, h5⟩
    by_cases e : i = j
    · subst e; exact absurd h0 hs
    · exact h4 i (by omega) h0
theorem Best.keep {st pr : Nat → Int} {j x : Nat} (h : Best st pr j (x : Int)) (hle : pr j ≤ pr x) : Best st pr (j + 1) (x : Int) := by
  rcases h with ⟨h1, h2⟩ | ⟨y, h1, h2, h3, h4, h5⟩
  · omega
  · have : y = x := by omega
    subst this
    refine .inr ⟨y, h1, by omega, h3, fun i hi h0 => ?_, h5⟩
    by_cases e : i = j
    · subst e; exact hle
    · exact h4 i (by omega) h0
theorem Best.turn {st pr : Nat → Int} {j : Nat} {b : Int} (h : Best st pr j b) (hs : st j = 0) (hb : b = -1 ∨ ∃ x : Nat, b = x ∧ pr x < pr j) : Best st pr (j + 1) (j : Int) := by
  refine .inr ⟨j, rfl, by omega, hs, fun i hi h0 => ?_, fun i hi h0 => ?_⟩
  · by_cases e : i = j
    · subst e; omega
    · rcases h with ⟨h1, h2⟩ | ⟨y, h1, h2, h3, h4, h5⟩
      · exact absurd h0 (h2 i (by omega))
      · rcases hb with hb | ⟨x, hb, hlt⟩
        · omega
        · have : x = y := by omega
          subst this
          have := h4 i (by omega) h0
          omega
  · rcases h with ⟨h1, h2⟩ | ⟨y, h1, h2, h3, h4, h5⟩
    · exact absurd h0 (h2 i hi)
    · rcases hb with hb | ⟨x, hb, hlt⟩
      · omega
      · have : x = y := by omega
        subst this
        have := h4 i hi h0
        omega

theorem lastOfK_range (k : KS) (pr : Nat → Int) (lv : Int) (h : Inv k) : -1 ≤ lastOfK k pr lv ∧ lastOfK k pr lv < (k.n : Int) := by
  unfold lastOfK
  split
  · exact h.last
  · exact lastR_range _ _ _ _ fun e he => (h.tr e (by simpa using he)).1

set_option maxRecDepth 100000 in
set_option maxHeartbeats 2000000 in
theorem pickPrio_any (w : World) (L : Lay) (k : KS) (H : Hid (KAt w L k)) (HI : Hid (Inv k)) (pb po c : Nat) (pr : Nat → Int) (HP : Hid (∀ i, i < k.n → w.cell? ⟨pb, po + i, none⟩ = some (.int .i64 (pr i)))) (T : Nat) (HT : Hid (k.trace.length = T)) (hT : T ≤ 256) :
    Calls Yapd.prog 51 #[.pointer (some ⟨L.kb, 0, none⟩), .slice (some ⟨pb, po, none⟩) k.n c] w fun e w' => (∃ r, e = .returned (.int .i64 r) ∧ PrioOk pr k r) ∧ Chg No w w' := by
  have f0 := H.out.f0
  have hn := H.out.hn
  go_enter Yapd.func51, Yapd.ntmps51
  go_wp2_with fail
  go_loop [5, 6] (fun b i => ∃ (j : Nat) (bb : Int), j ≤ k.n ∧ i = .int .i64 j ∧ b = .int .i64 bb ∧ Hid (Best k.st pr j bb)) (fun _ i => k.n - (intOf i).toNat)
  case atStart => exact ⟨0, -1, by omega, rfl, rfl, .inl ⟨rfl, fun i hi => by omega⟩⟩
  case round =>
    obtain ⟨j, bb, hj, rfl, rfl, HB⟩ := hrel
    by_cases hjn : j < k.n
    · have c0 := H.out.cs hjn
      by_cases hs : k.st j = 0
      · have HS0 : Hid (k.st j = 0) := hs
        rw [hs] at c0
        clear hs
        by_cases hb : bb < 0
        · have hb1 : bb = -1 := by
            rcases HB.out with ⟨h, _⟩ | ⟨x, h, _⟩ <;> omega
          subst hb1
          clear hb
          go_wp2_with fail
          go_round
          case rel => exact ⟨j + 1, j, by omega, by go_num, rfl, HB.out.turn HS0.out (.inl rfl)⟩
          case measure => simp [intOf]; omega
        · obtain ⟨x, rfl⟩ := Int.eq_ofNat_of_zero_le (show 0 ≤ bb by omega)
          have hxj : x < k.n := by
            rcases HB.out with ⟨h, _⟩ | ⟨y, h, h1, _⟩ <;> omega
          clear hb
          go_wp2_with fail
          refine (priority_any w pb po k.n c pr HP j hjn).mono ?_
          rintro e w' ⟨rfl, hw⟩
          subst w'
          go_wp2_with fail
          refine (priority_any w pb po k.n c pr HP x hxj).mono ?_
          rintro e w' ⟨rfl, hw⟩
          subst w'
          by_cases hlt : pr x < pr j
          · have HLT : Hid (pr x < pr j) := hlt
            go_wp2_with fail
            go_round
            case rel => exact ⟨j + 1, j, by omega, by go_num, rfl, HB.out.turn HS0.out (.inr ⟨x, rfl, HLT.out⟩)⟩
            case measure => simp [intOf]; omega
          · go_wp2_with fail
            go_round
            case rel => exact ⟨j + 1, x, by omega, by go_num, rfl, HB.out.keep (by omega)⟩
            case measure => simp [intOf]; omega
      · have HS0 : Hid (k.st j ≠ 0) := hs
        have hs' : (k.st j == 0) = false := by simpa using hs
        clear hs
        go_wp2_with fail
        go_round
        case rel => exact ⟨j + 1, bb, by omega, by go_num, rfl, HB.out.skip HS0.out⟩
        case measure => simp [intOf]; omega
    · have hje : k.n = j := by omega
      by_cases hb : bb < 0
      · have hb1 : bb = -1 := by
          rcases HB.out with ⟨h, _⟩ | ⟨x, h, _⟩ <;> omega
        subst hb1
        clear hb
        go_wp2_with fail
        go_ret
        refine ⟨⟨-1, rfl, .inl ⟨rfl, ?_⟩⟩, Chg.refl _ _⟩
        rcases HB.out with ⟨_, h⟩ | ⟨x, h, _⟩
        · rw [hje]; exact h
        · omega
      · obtain ⟨x, rfl⟩ := Int.eq_ofNat_of_zero_le (show 0 ≤ bb by omega)
        have hxj : x < k.n := by
          rcases HB.out with ⟨h, _⟩ | ⟨y, h, h1, _⟩ <;> omega
        have HJ : Hid (Best k.st pr k.n (x : Int)) := by unfold Hid; rw [hje]; exact HB.out
        clear hb hje HB
        go_wp2_with fail
        refine (priority_any w pb po k.n c pr HP x hxj).mono ?_
        rintro e w' ⟨rfl, hw⟩
        subst w'
        go_wp2_with fail
        refine (lastOf_any w L k H HI pb po c pr HP (pr x) T HT hT).mono ?_
        rintro e w1 ⟨rfl, C1⟩
        have HLA : Hid (-1 ≤ lastOfK k pr (pr x) ∧ lastOfK k pr (pr x) < (k.n : Int)) := lastOfK_range k pr (pr x) HI.out
        have HC1 : Hid (Chg No w w1) := C1
        have HK1 : Hid (KAt w1 L k) := H.out.chg C1 (fun _ _ h => h)
        have HP1 : Hid (∀ i, i < k.n → w1.cell? ⟨pb, po + i, none⟩ = some (.int .i64 (pr i))) := fun i hi => by
          rw [C1.cell (p := ⟨pb, po + i, none⟩) (cell_lt (HP.out i hi)) (fun h => h)]; exact HP.out i hi
        clear C1 f0
        have f0 := HK1.out.f0
        obtain ⟨la, hla⟩ : ∃ la, lastOfK k pr (pr x) = la := ⟨_, rfl⟩
        have HL : Hid (lastOfK k pr (pr x) = la) := hla
        rw [hla] at HLA ⊢
        obtain ⟨hl1, hl2⟩ := HLA.out
        clear hla HLA
        go_wp2_with fail
        go_loop [8] (fun i => ∃ s : Nat, s ≤ k.n ∧ i = .int .i64 s ∧ la < (s : Int) ∧ Hid (∀ i : Nat, la < (i : Int) → i < s → ¬ (k.st i = 0 ∧ pr i = pr x))) (fun i => k.n - (intOf i).toNat)
        case atStart =>
          obtain ⟨s0, hs0⟩ := Int.eq_ofNat_of_zero_le (show 0 ≤ la + 1 by omega)
          exact ⟨s0, by omega, by rw [hs0], by omega, fun i h1 h2 => by omega⟩
        case round =>
          obtain ⟨s, hs, rfl, hlas, HN⟩ := hrel
          by_cases hsn : s < k.n
          · have c0 := HK1.out.cs hsn
            by_cases h0 : k.st s = 0
            · have HS0 : Hid (k.st s = 0) := h0
              rw [h0] at c0
              clear h0
              go_wp2_with fail
              refine (priority_any w1 pb po k.n c pr HP1 s hsn).mono ?_
              rintro e w' ⟨rfl, hw⟩
              subst w'
              by_cases heq : pr s = pr x
              · have hq : (pr s == pr x) = true := by simpa using heq
                have HQ : Hid (pr s = pr x) := heq
                clear heq
                go_wp2_with fail
                go_ret
                refine ⟨⟨s, rfl, .inr ⟨s, rfl, hsn, HS0.out, fun i hi h => ?_, .inl ?_⟩⟩, HC1.out⟩
                · rw [HQ.out]
                  rcases HJ.out with ⟨h1, _⟩ | ⟨y, h1, _, _, h2, _⟩
                  · omega
                  · have : x = y := by omega
                    subst this
                    exact h2 i hi h
                · rw [HQ.out, HL.out]
                  exact ⟨hlas, HN.out⟩
              · have hq : (pr s == pr x) = false := by simpa using heq
                have HQ : Hid (¬ pr s = pr x) := heq
                clear heq
                go_wp2_with fail
                go_round
                case rel => exact ⟨s + 1, by omega, by go_num, by omega, fun i h1 h2 h3 => by
                  by_cases e : i = s
                  · subst e; exact HQ.out h3.2
                  · exact HN.out i h1 (by omega) h3⟩
                case measure => simp [intOf]; omega
            · have HS0 : Hid (¬ k.st s = 0) := h0
              have h0' : (k.st s == 0) = false := by simpa using h0
              clear h0
              go_wp2_with fail
              go_round
              case rel => exact ⟨s + 1, by omega, by go_num, by omega, fun i h1 h2 h3 => by
                by_cases e : i = s
                · subst e; exact HS0.out h3.1
                · exact HN.out i h1 (by omega) h3⟩
              case measure => simp [intOf]; omega
          · go_wp2_with fail
            go_ret
            rcases HJ.out with ⟨h1, _⟩ | ⟨y, h1, h2, h3, h4, h5⟩
            · omega
            · have : x = y := by omega
              subst this
              refine ⟨⟨x, rfl, .inr ⟨x, rfl, h2, h3, h4, .inr ?_⟩⟩, HC1.out⟩
              rw [HL.out]
              have hxla : ¬ la < (x : Int) := fun h => HN.out x h (by omega) ⟨h3, rfl⟩
              refine ⟨by omega, fun i hi h => HN.out i h (by omega), fun i hi h => ?_⟩
              have := h5 i hi h.1
              rw [h.2] at this
              omega
end Go.Proofs.Ygdapg
