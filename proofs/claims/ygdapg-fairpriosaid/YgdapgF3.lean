/-
  The law fairPrio, WALKED.
-/
import Derived.Test.YgdapgF1
import Derived.Test.YgdapgF2
import Derived.Test.YgdapgR7
set_option linter.unusedSimpArgs false
set_option linter.unusedVariables false
namespace Go.Proofs.Ygdapg
open Go.RowKit

set_option maxHeartbeats 1000000 in
theorem fairPrio_law (w : World) (v pv : Value) (N : Nat) (pl : Nat → Nat) (pg : Nat → Nat → Int × Int) (n2 : Nat) (pr : Nat → Int) (q : Int) (HV : Hid (ProgsAt w.heap.size w v N pl pg)) (HS : Hid (Sized N pl)) (HPV : Hid (IntsAt w.heap.size w pv n2 pr)) :
    Calls Yapd.prog 14 #[v, pv, .int .i64 q] w fun e w' => e = .returned (.bool true) ∧ Below w.heap.size w w' := by
  obtain ⟨a, c, rfl, -⟩ := HV.out
  obtain ⟨a2, c2, rfl, -⟩ := HPV.out
  go_enter Yapd.func14, Yapd.ntmps14
  go_wp2_with fail
  refine (inBoundsPrio_any w w.heap.size _ N pl pg HV HS a2 n2 c2 q).mono ?_
  rintro e w' ⟨⟨r, rfl, hr⟩, hw⟩
  subst w'
  have HR : Hid (r = true ↔ (InB N pl q ∧ n2 = N)) := hr
  clear hr
  cases r
  · go_wp2_with fail
    go_ret
    exact ⟨rfl, Below.refl _ _⟩
  · have HI : Hid (InB N pl q) := (HR.out.1 rfl).1
    have hn2 : n2 = N := (HR.out.1 rfl).2
    subst hn2
    clear HR
    go_wp2_with fail
    refine (replayPrio_any w a n2 c q pl pg (.slice a2 n2 c2) pr HPV HV HI).mono ?_
    rintro e w1 ⟨ps, mv, V, cf, X, rfl, HH, HV0, HC, ho, hend⟩
    have HX : Hid (_ ∧ _ ∧ _ ∧ _ ∧ _) := ⟨HH, HV0, HC, ho, hend⟩
    clear HH HV0 HC ho hend
    go_wp2_with fail
    obtain ⟨HH, HV0, HC, ho, hend⟩ := HX.out
    have HL : (momK pl pg (bootK n2) ps).length = ps.length := momK_length pl pg ps _
    have hN : n2 ≤ 8 := HI.out.1
    have hpl := HI.out.2.2.2
    have hM : ps.length ≤ 256 := by
      have h1 := HI.out.2.1
      have h2 := HI.out.2.2.1
      rcases hend with h | h <;> omega
    have HN0 : 0 < ps.length → 0 < n2 := fun h => by
      have h1 := (prioOk_picks pr _ _ (ho 0 ps[0] (by simp))).1
      rw [runK_n] at h1
      have h2 : (bootK n2).n = n2 := rfl
      omega
    refine (fairPrio_any w1 w.heap.size n2 V mv X _ cf HH hN ps.length HL hM (.slice a2 n2 c2) pr w.heap.size (HPV.out.chg HC) (fairPrioOk hN hpl ho) HN0 HV0).mono ?_
    rintro e w2 ⟨rfl, C2⟩
    have HC3 : Hid (Chg No w w2) := HC.trans C2
    clear HC C2 HH HV0 ho hend HX HL hN hpl hM HN0
    go_wp2_with fail
    go_ret
    exact ⟨rfl, HC3.out.below (B := w.heap.size) (Nat.le_refl _) (fun _ h => h.elim)⟩
end Go.Proofs.Ygdapg
