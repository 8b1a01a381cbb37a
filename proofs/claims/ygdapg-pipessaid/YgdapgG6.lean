/-
  The law pipes, WALKED.
-/
import Derived.Test.YgdapgG5
set_option linter.unusedSimpArgs false
set_option linter.unusedVariables false
namespace Go.Proofs.Ygdapg
open Go.RowKit

set_option maxHeartbeats 1000000 in
theorem pipes_law (w : World) (v : Value) (N : Nat) (pl : Nat → Nat) (pg : Nat → Nat → Int × Int) (q : Int) (HV : Hid (ProgsAt w.heap.size w v N pl pg)) (HS : Hid (Sized N pl)) :
    Calls Yapd.prog 10 #[v, .int .i64 q] w fun e w' => e = .returned (.bool true) ∧ Below w.heap.size w w' := by
  obtain ⟨a, c, rfl, -⟩ := HV.out
  go_enter Yapd.func10, Yapd.ntmps10
  go_wp2_with fail
  refine (inBounds_any w w.heap.size _ N pl pg HV.out HS.out q).mono ?_
  rintro e w' ⟨⟨r, rfl, hr⟩, hw⟩
  subst w'
  have HR : Hid (r = true ↔ InB N pl q) := hr
  clear hr
  cases r
  · go_wp2_with fail
    go_ret
    exact ⟨rfl, Below.refl _ _⟩
  · have HI : Hid (InB N pl q) := HR.out.1 rfl
    clear HR
    go_wp2_with fail
    refine (replay_any w a N c q pl pg HV HI).mono ?_
    rintro e w1 ⟨ps, mv, V, cf, X, rfl, HH, HV0, HC, ho, hend⟩
    have HX : Hid (_ ∧ _ ∧ _ ∧ _ ∧ _) := ⟨HH, HV0, HC, ho, hend⟩
    clear HH HV0 HC ho hend
    go_wp2_with fail
    obtain ⟨HH, HV0, HC, ho, hend⟩ := HX.out
    have HL : (momK pl pg (bootK N) ps).length = ps.length := momK_length pl pg ps _
    have hN : N ≤ 8 := HI.out.1
    have hpl := HI.out.2.2.2
    have hM : ps.length ≤ 256 := by
      have h1 := HI.out.2.1
      have h2 := HI.out.2.2.1
      rcases hend with h | h <;> omega
    have HN0 : 0 < ps.length → 0 < N := fun h => by
      have h1 := (pickOk_picks _ _ (ho 0 ps[0] (by simp))).1
      rw [runK_n] at h1
      have h2 : (bootK N).n = N := rfl
      omega
    refine (pipes_any w1 w.heap.size N V mv X _ cf HH hN ps.length HL hM (pipesOk pickOk_picks ho) HN0 HV0).mono ?_
    rintro e w2 ⟨rfl, C2⟩
    have HC3 : Hid (Chg No w w2) := HC.trans C2
    clear HC C2 HH HV0 ho hend HX HL hN hpl hM HN0
    go_wp2_with fail
    go_ret
    exact ⟨rfl, HC3.out.below (B := w.heap.size) (Nat.le_refl _) (fun _ h => h.elim)⟩
end Go.Proofs.Ygdapg
