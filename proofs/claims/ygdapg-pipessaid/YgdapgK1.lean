/-
  THE KERNEL's SMALL FUNCTIONS, WALKED: has, sleep.
-/
import Derived.Test.YgdapgHeap
set_option linter.unusedSimpArgs false
set_option linter.unusedVariables false
namespace Go.Proofs.Ygdapg
open Go.RowKit

def ptr (b : Nat) : Value := .pointer (some ⟨b, 0, none⟩)

set_option maxHeartbeats 400000 in
theorem has_any (w : World) (L : Lay) (k : KS) (hk : KAt w L k) (p : Int) :
    Calls Yapd.prog 68 #[.pointer (some ⟨L.kb, 0, none⟩), .int .i64 p] w fun e w' => e = .returned (.bool (decide (0 ≤ p ∧ p < (k.n : Int)))) ∧ w' = w := by
  have f0 := hk.f0
  have f1 := hk.f1
  have f2 := hk.f2
  have f3 := hk.f3
  have f4 := hk.f4
  have hn := hk.hn
  clear hk
  by_cases h1 : 0 ≤ p
  · by_cases h2 : p < (k.n : Int)
    · go_enter Yapd.func68, Yapd.ntmps68
      go_wp2
      go_ret
      exact ⟨by simp [h1, h2], rfl⟩
    · go_enter Yapd.func68, Yapd.ntmps68
      go_wp2
      go_ret
      exact ⟨by simp [h1, h2], rfl⟩
  · go_enter Yapd.func68, Yapd.ntmps68
    go_wp2
    go_ret
    exact ⟨by simp [h1]; omega, rfl⟩

set_option maxHeartbeats 400000 in
theorem sleep_any (w : World) (L : Lay) (k : KS) (hk : KAt w L k) (p : Nat) (on : Int) (hp : p < k.n) :
    Calls Yapd.prog 70 #[.pointer (some ⟨L.kb, 0, none⟩), .int .i64 p, .int .i64 on] w fun e w' => e = .returned (.tuple #[]) ∧
      KAt w' L { k with st := upd k.st p 2, wo := upd k.wo p on } ∧ Chg L.mem w w' := by
  have f0 := hk.f0
  have f3 := hk.f3
  have hn := hk.hn
  have c0 := hk.cs hp
  have c3 := hk.co hp
  have z0 := hk.zs p
  have z3 := hk.zo p
  obtain ⟨⟨n1, -, -, n4, -⟩, ⟨-, -, n11, -⟩, -⟩ := hk.ne
  have H : Hid (KAt w L k) := hk
  clear hk
  go_enter Yapd.func70, Yapd.ntmps70
  go_wp2
  go_end0
  exact ⟨rfl, (H.out.setSt p 2).setWo p on, ((Chg.refl _ _).setCell (.inl (by simp [Lay.mem, Lay.list])) _).setCell (.inl (by simp [Lay.mem, Lay.list])) _⟩
end Go.Proofs.Ygdapg
