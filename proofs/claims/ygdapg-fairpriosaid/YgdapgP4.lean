/-
  A slice of priorities; PickPrio with it; InBoundsPrio, WALKED.
-/
import Derived.Test.YgdapgP3
import Derived.Test.YgdapgE1
set_option linter.unusedSimpArgs false
set_option linter.unusedVariables false
namespace Go.Proofs.Ygdapg
open Go.RowKit

/-- A slice of numbers, below B. -/
def IntsAt (B : Nat) (w : World) (v : Value) (n : Nat) (f : Nat → Int) : Prop :=
  ∃ a c, v = .slice a n c ∧ (0 < n → ∃ b o, a = some ⟨b, o, none⟩ ∧ b < B ∧ ∀ i, i < n → w.cell? ⟨b, o + i, none⟩ = some (.int .i64 (f i)))
theorem IntsAt.chg {B : Nat} {w w' : World} {v : Value} {n : Nat} {f : Nat → Int} (h : IntsAt B w v n f) (hc : Chg No w w') : IntsAt B w' v n f := by
  obtain ⟨a, c, h1, h2⟩ := h
  refine ⟨a, c, h1, fun hn => ?_⟩
  obtain ⟨b, o, h3, h4, h5⟩ := h2 hn
  exact ⟨b, o, h3, h4, fun i hi => by rw [hc.cell (p := ⟨b, o + i, none⟩) (cell_lt (h5 i hi)) (fun h => h)]; exact h5 i hi⟩

set_option maxRecDepth 100000 in
set_option maxHeartbeats 400000 in
theorem pickPrio_zero (w : World) (L : Lay) (k : KS) (H : Hid (KAt w L k)) (v : Value) (h0 : k.n = 0) :
    Calls Yapd.prog 51 #[.pointer (some ⟨L.kb, 0, none⟩), v] w fun e w' => e = .returned (.int .i64 (-1)) ∧ Chg No w w' := by
  have f0 := H.out.f0
  rw [h0] at f0
  clear h0
  go_enter Yapd.func51, Yapd.ntmps51
  go_wp2_with fail
  go_loop [5, 6] (fun b i => b = .int .i64 (-1) ∧ i = .int .i64 0) (fun _ _ => 0)
  case atStart => exact ⟨rfl, rfl⟩
  case round =>
    obtain ⟨rfl, rfl⟩ := hrel
    go_wp2_with fail
    go_ret
    exact ⟨rfl, Chg.refl _ _⟩

theorem pickPrio_all (w : World) (L : Lay) (k : KS) (H : Hid (KAt w L k)) (HI : Hid (Inv k)) (B : Nat) (v : Value) (pr : Nat → Int) (HV : IntsAt B w v k.n pr) (T : Nat) (HT : Hid (k.trace.length = T)) (hT : T ≤ 256) :
    Calls Yapd.prog 51 #[.pointer (some ⟨L.kb, 0, none⟩), v] w fun e w' => (∃ r, e = .returned (.int .i64 r) ∧ PrioOk pr k r) ∧ Chg No w w' := by
  by_cases h0 : k.n = 0
  · refine (pickPrio_zero w L k H v h0).mono ?_
    rintro e w' ⟨rfl, hc⟩
    exact ⟨⟨-1, rfl, .inl ⟨rfl, fun i hi => by omega⟩⟩, hc⟩
  · obtain ⟨a, c, rfl, h⟩ := HV
    obtain ⟨b, o, rfl, _, h2⟩ := h (by omega)
    exact pickPrio_any w L k H HI b o c pr h2 T HT hT

set_option maxHeartbeats 400000 in
theorem inBoundsPrio_any (w : World) (B : Nat) (v : Value) (N : Nat) (pl : Nat → Nat) (pg : Nat → Nat → Int × Int) (hv : Hid (ProgsAt B w v N pl pg)) (hs : Hid (Sized N pl)) (a2 : Option Addr) (n2 c2 : Nat) (q : Int) :
    Calls Yapd.prog 30 #[v, .slice a2 n2 c2, .int .i64 q] w fun e w' => RetB e (fun r => r = true ↔ (InB N pl q ∧ n2 = N)) ∧ w' = w := by
  obtain ⟨a, c, rfl, -⟩ := hv.out
  go_enter Yapd.func30, Yapd.ntmps30
  go_wp2_with fail
  refine (inBounds_any w B _ N pl pg hv.out hs.out q).mono ?_
  rintro e w' ⟨⟨r, rfl, hr⟩, hw⟩
  subst w'
  have HR : Hid (r = true ↔ InB N pl q) := hr
  clear hr
  cases r
  · go_wp2_with fail
    go_ret
    exact ⟨⟨false, rfl, ⟨fun h => by simp at h, fun h => by have := HR.out.2 h.1; simp at this⟩⟩, rfl⟩
  · have HI : Hid (InB N pl q) := HR.out.1 rfl
    clear HR
    by_cases he : n2 = N
    · subst he
      go_wp2_with fail
      go_ret
      exact ⟨⟨true, rfl, ⟨fun _ => by first | exact ⟨HI.out, rfl⟩ | exact HI.out, fun _ => rfl⟩⟩, rfl⟩
    · have he' : ((n2 : Int) == (N : Int)) = false := by simp; omega
      have HE : Hid (¬ n2 = N) := he
      clear he
      go_wp2_with fail
      go_ret
      exact ⟨⟨false, rfl, ⟨fun h => by simp at h, fun h => absurd h.2 HE.out⟩⟩, rfl⟩
end Go.Proofs.Ygdapg
