/-
  THE KERNEL's Pick, WALKED.
-/
import Derived.Test.YgdapgK6
set_option linter.unusedSimpArgs false
set_option linter.unusedVariables false
namespace Go.Proofs.Ygdapg
open Go.RowKit

/-- What Pick answers: -1 where nobody is runnable, else the first runnable one behind Last, round the table. -/
def PickF (n : Nat) (st : Nat → Int) (last r : Int) : Prop :=
  (r = -1 ∧ ∀ i, i < n → st i ≠ 0) ∨
  ∃ q : Nat, r = q ∧ q < n ∧ st q = 0 ∧ ((last < (q : Int) ∧ ∀ i : Nat, last < (i : Int) → i < q → st i ≠ 0) ∨
    ((q : Int) ≤ last ∧ (∀ i : Nat, i < n → last < (i : Int) → st i ≠ 0) ∧ ∀ i, i < q → st i ≠ 0))
def PickOk (k : KS) (r : Int) : Prop := PickF k.n k.st k.last r

set_option maxHeartbeats 1000000 in
theorem pick_walk (w : World) (kb bs n : Nat) (st : Nat → Int) (la : Int) (f0 : w.cell? ⟨kb, 0, none⟩ = some (.slice (some ⟨bs, 0, none⟩) n n)) (f7 : w.cell? ⟨kb, 7, none⟩ = some (.int .i64 la))
    (hn : n ≤ 8) (HC : Hid (∀ i, i < n → w.cell? ⟨bs, i, none⟩ = some (.int .i64 (st i)))) (h1 : -1 ≤ la) (h2 : la < (n : Int)) :
    Calls Yapd.prog 36 #[.pointer (some ⟨kb, 0, none⟩)] w fun e w' => (∃ r, e = .returned (.int .i64 r) ∧ PickF n st la r) ∧ w' = w := by
  by_cases hm : la = -1
  · subst hm
    go_enter Yapd.func36, Yapd.ntmps36
    go_wp2
    go_loop [5] (fun i => ∃ j : Nat, j ≤ n ∧ i = .int .i64 j ∧ Hid (∀ i, i < j → st i ≠ 0)) (fun i => n - (intOf i).toNat)
    case atStart => exact ⟨0, Nat.zero_le _, rfl, fun i hi => by omega⟩
    case round =>
      obtain ⟨j, hj, rfl, HJ⟩ := hrel
      by_cases hlt : j < n
      · have c0 := HC.out j hlt
        by_cases hs : st j = 0
        · have Hs : Hid (st j = 0) := hs
          have hs' : (st j == 0) = true := by simp [hs]
          clear hs
          go_wp2
          go_ret
          exact ⟨⟨_, rfl, .inr ⟨j, rfl, hlt, Hs.out, .inl ⟨by omega, fun i _ hi => HJ.out i hi⟩⟩⟩, rfl⟩
        · have Hs : Hid (st j ≠ 0) := hs
          have hs' : (st j == 0) = false := by simp [hs]
          clear hs
          go_wp2
          go_round
          case rel => exact ⟨j + 1, by omega, by go_num, fun i hi => by by_cases e : i = j; (· subst e; exact Hs.out); exact HJ.out i (by omega)⟩
          case measure => simp [intOf]; omega
      · have hj' : j = n := by omega
        subst hj'
        go_wp2
        go_loop [6] (fun i => i = .int .i64 0) (fun i => 0)
        case atStart => rfl
        case round =>
          subst hrel
          go_wp2
          go_ret
          exact ⟨⟨_, rfl, .inl ⟨rfl, HJ.out⟩⟩, rfl⟩
  · obtain ⟨q, rfl⟩ := Int.eq_ofNat_of_zero_le (show 0 ≤ la by omega)
    have hq : q < n := by omega
    clear h1 h2 hm
    go_enter Yapd.func36, Yapd.ntmps36
    go_wp2
    go_loop [5] (fun i => ∃ j : Nat, j ≤ n ∧ q < j ∧ i = .int .i64 j ∧ Hid (∀ i, q < i → i < j → st i ≠ 0)) (fun i => n - (intOf i).toNat)
    case atStart => exact ⟨q + 1, by omega, by omega, by go_num, fun i h1 h2 => by omega⟩
    case round =>
      obtain ⟨j, hj, hqj, rfl, HJ⟩ := hrel
      by_cases hlt : j < n
      · have c0 := HC.out j hlt
        by_cases hs : st j = 0
        · have Hs : Hid (st j = 0) := hs
          have hs' : (st j == 0) = true := by simp [hs]
          clear hs
          go_wp2
          go_ret
          exact ⟨⟨_, rfl, .inr ⟨j, rfl, hlt, Hs.out, .inl ⟨by omega, fun i h hi => HJ.out i (by omega) hi⟩⟩⟩, rfl⟩
        · have Hs : Hid (st j ≠ 0) := hs
          have hs' : (st j == 0) = false := by simp [hs]
          clear hs
          go_wp2
          go_round
          case rel => exact ⟨j + 1, by omega, by omega, by go_num, fun i h hi => by by_cases e : i = j; (· subst e; exact Hs.out); exact HJ.out i h (by omega)⟩
          case measure => simp [intOf]; omega
      · have hj' : j = n := by omega
        subst hj'
        go_wp2
        go_loop [6] (fun i => ∃ m : Nat, m ≤ q + 1 ∧ i = .int .i64 m ∧ Hid (∀ i, i < m → st i ≠ 0)) (fun i => q + 1 - (intOf i).toNat)
        case atStart => exact ⟨0, by omega, rfl, fun i hi => by omega⟩
        case round =>
          obtain ⟨m, hm, rfl, HM⟩ := hrel
          by_cases hmq : m ≤ q
          · have c0 := HC.out m (by omega)
            by_cases hs : st m = 0
            · have Hs : Hid (st m = 0) := hs
              have hs' : (st m == 0) = true := by simp [hs]
              clear hs
              go_wp2
              go_ret
              exact ⟨⟨_, rfl, .inr ⟨m, rfl, by omega, Hs.out, .inr ⟨by omega, fun i hi h => HJ.out i (by omega) hi, HM.out⟩⟩⟩, rfl⟩
            · have Hs : Hid (st m ≠ 0) := hs
              have hs' : (st m == 0) = false := by simp [hs]
              clear hs
              go_wp2
              go_round
              case rel => exact ⟨m + 1, by omega, by go_num, fun i hi => by by_cases e : i = m; (· subst e; exact Hs.out); exact HM.out i (by omega)⟩
              case measure => simp [intOf]; omega
          · go_wp2
            go_ret
            exact ⟨⟨_, rfl, .inl ⟨rfl, fun i hi => by by_cases e : i < m; (· exact HM.out i e); exact HJ.out i (by omega) hi⟩⟩, rfl⟩

theorem pick_any (w : World) (L : Lay) (k : KS) (hk : KAt w L k) (h1 : -1 ≤ k.last) (h2 : k.last < (k.n : Int)) :
    Calls Yapd.prog 36 #[.pointer (some ⟨L.kb, 0, none⟩)] w fun e w' => (∃ r, e = .returned (.int .i64 r) ∧ PickOk k r) ∧ w' = w :=
  pick_walk w L.kb L.s k.n k.st k.last hk.f0 hk.f7 hk.hn (fun i hi => hk.cs hi) h1 h2
end Go.Proofs.Ygdapg
