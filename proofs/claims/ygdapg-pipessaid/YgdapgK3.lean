/-
  THE KERNEL's SMALL FUNCTIONS, WALKED: exit, await, Settle.
-/
import Derived.Test.YgdapgK2
import Derived.Deep.RegionHeld3
import Derived.BigRegion
import Derived.Deep.DrawnRows
set_option linter.unusedSimpArgs false
set_option linter.unusedVariables false
namespace Go.Proofs.Ygdapg
open Go.RowKit
attribute [local go_sem ↓] Go.wp_at_zero Go.wp_at_succ

def sleepK (k : KS) (p : Nat) (on : Int) : KS := { k with st := upd k.st p 2, wo := upd k.wo p on }
def exitK (k : KS) (p : Nat) (s : Int) : KS := wake { k with wo := upd k.wo p 0, st := upd k.st p 3, su := upd k.su p s } (9 + (p : Int))
def pcInc (k : KS) (p : Nat) : KS := { k with pc := upd k.pc p (k.pc p + 1) }
def awaitK (k : KS) (p a : Nat) : KS :=
  if k.st a = 3 then pcInc { k with acc := upd k.acc p (wrap64 (k.acc p + k.su a)) } p else sleepK k p (9 + (a : Int))

set_option maxHeartbeats 400000 in
theorem exit_any (w : World) (L : Lay) (k : KS) (hk : KAt w L k) (p : Nat) (s : Int) (hp : p < k.n) :
    Calls Yapd.prog 74 #[.pointer (some ⟨L.kb, 0, none⟩), .int .i64 p, .int .i64 s] w fun e w' => e = .returned (.tuple #[]) ∧
      KAt w' L (exitK k p s) ∧ Chg L.mem w w' := by
  have f0 := hk.f0
  have f3 := hk.f3
  have f4 := hk.f4
  have hn := hk.hn
  have c0 := hk.cs hp
  have c3 := hk.co hp
  have c4 := hk.cu hp
  have z0 := hk.zs p
  have z3 := hk.zo p
  have z4 := hk.zu p
  obtain ⟨⟨n1, -, -, n4, n5, -⟩, ⟨-, -, n11, n12, -⟩, -, -, ⟨n13, -⟩, -⟩ := hk.ne
  have H : Hid (KAt w L k) := hk
  clear hk
  go_enter Yapd.func74, Yapd.ntmps74
  go_wp2_with fail
  refine (wake_any _ L _ (((H.out.setWo p 0).setSt p 3).setSu p s) _).mono ?_
  rintro e w' ⟨rfl, HK, HC⟩
  have HK' : Hid (KAt w' L (exitK k p s)) := HK
  have HC' : Hid (Chg L.mem w w') := ((((Chg.refl _ _).setCell (.inl (by simp [Lay.mem, Lay.list])) _).setCell (.inl (by simp [Lay.mem, Lay.list])) _).setCell (.inl (by simp [Lay.mem, Lay.list])) _).trans HC
  clear HK HC
  go_wp2_with fail
  go_end0
  exact ⟨rfl, HK'.out, HC'.out⟩

set_option maxHeartbeats 400000 in
theorem await_any (w : World) (L : Lay) (k : KS) (hk : KAt w L k) (p a : Nat) (hp : p < k.n) (ha : a < k.n) (hpc : k.pc p ≤ 32 ∧ 0 ≤ k.pc p) :
    Calls Yapd.prog 75 #[.pointer (some ⟨L.kb, 0, none⟩), .int .i64 p, .int .i64 a] w fun e w' => e = .returned (.tuple #[]) ∧
      KAt w' L (awaitK k p a) ∧ Chg L.mem w w' := by
  have f0 := hk.f0
  have f1 := hk.f1
  have f2 := hk.f2
  have f4 := hk.f4
  have hn := hk.hn
  have c0 := hk.cs ha
  have c1 := hk.cc hp
  have c2 := hk.ca hp
  have c4 := hk.cu ha
  have z1 := hk.zc p
  have z2 := hk.za p
  obtain ⟨⟨-, n2, n3, -⟩, -, ⟨n4, -⟩, -⟩ := hk.ne
  have H : Hid (KAt w L k) := hk
  clear hk
  by_cases h1 : k.st a = 3
  · have E : Hid (awaitK k p a = pcInc { k with acc := upd k.acc p (wrap64 (k.acc p + k.su a)) } p) := by unfold awaitK Hid; rw [if_pos h1]
    have hp0 : (0 : Int) ≤ (p : Int) := by omega
    have hp1 : (p : Int) < (k.n : Int) := by omega
    have ha0 : (0 : Int) ≤ (a : Int) := by omega
    have ha1 : (a : Int) < (k.n : Int) := by omega
    go_enter Yapd.func75, Yapd.ntmps75
    go_wp2_with fail
    go_region
    go_wp2
    go_end0
    refine ⟨rfl, ?_, ?_⟩
    · rw [E.out]; exact ((H.out.setAcc p _).setPc p _).drew
    · exact (((Chg.refl _ _).setCell (.inl (by simp [Lay.mem, Lay.list])) _).setCell (.inl (by simp [Lay.mem, Lay.list])) _).drew
  · have E : Hid (awaitK k p a = sleepK k p (9 + (a : Int))) := by unfold awaitK Hid; rw [if_neg h1]
    have h1' : (k.st a != 3) = true := by simp [h1]
    clear h1
    go_enter Yapd.func75, Yapd.ntmps75
    go_wp2_with fail
    refine (sleep_any _ L _ H.out p _ hp).mono ?_
    rintro e w' ⟨rfl, HK, HC⟩
    have HK' : Hid (KAt w' L (sleepK k p (9 + (a : Int)))) := HK
    have HC' : Hid (Chg L.mem w w') := HC
    clear HK HC
    go_wp2_with fail
    refine bodyPost_ret (results_none rfl _ _ _) rfl ?_
    exact ⟨rfl, by rw [E.out]; exact HK'.out, HC'.out⟩

def settleK (k : KS) (p : Nat) : KS := { k with st := if k.st p = 1 then upd k.st p 0 else k.st, last := (p : Int), ticks := k.ticks + 1 }

set_option maxHeartbeats 400000 in
theorem settle_any (w : World) (L : Lay) (k : KS) (hk : KAt w L k) (p : Nat) (hp : p < k.n) (ht0 : 0 ≤ k.ticks) (ht1 : k.ticks ≤ 1000) :
    Calls Yapd.prog 55 #[.pointer (some ⟨L.kb, 0, none⟩), .int .i64 p] w fun e w' => e = .returned (.tuple #[]) ∧
      KAt w' L (settleK k p) ∧ Chg L.mem w w' := by
  have f0 := hk.f0
  have f7 := hk.f7
  have f8 := hk.f8
  have hn := hk.hn
  have c0 := hk.cs hp
  have z0 := hk.zs p
  have z7 := hk.zk 7
  have z8 := hk.zk 8
  obtain ⟨⟨n1, -⟩, -⟩ := hk.ne
  have H : Hid (KAt w L k) := hk
  clear hk
  by_cases h1 : k.st p = 1
  · have E : Hid (settleK k p = { k with st := upd k.st p 0, last := (p : Int), ticks := k.ticks + 1 }) := by unfold settleK Hid; rw [if_pos h1]
    go_enter Yapd.func55, Yapd.ntmps55
    go_wp2
    go_end0
    refine ⟨rfl, ?_, ?_⟩
    · rw [E.out]; exact ((H.out.setSt p 0).setLast p).setTicks _
    · exact ((((Chg.refl _ _).setCell (.inl (by simp [Lay.mem, Lay.list])) _).setCell (.inl (by simp [Lay.mem, Lay.list])) _).setCell (.inl (by simp [Lay.mem, Lay.list])) _)
  · have E : Hid (settleK k p = { k with last := (p : Int), ticks := k.ticks + 1 }) := by unfold settleK Hid; rw [if_neg h1]
    have h1' : (k.st p == 1) = false := by simp [h1]
    clear h1
    go_enter Yapd.func55, Yapd.ntmps55
    go_wp2
    go_end0
    refine ⟨rfl, ?_, ?_⟩
    · rw [E.out]; exact (H.out.setLast p).setTicks _
    · exact ((Chg.refl _ _).setCell (.inl (by simp [Lay.mem, Lay.list])) _).setCell (.inl (by simp [Lay.mem, Lay.list])) _
end Go.Proofs.Ygdapg
