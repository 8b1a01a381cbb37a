/-
  THE LAW Ends, WALKED.
-/
import Derived.Test.YgdapgL1
set_option linter.unusedSimpArgs false
set_option linter.unusedVariables false
namespace Go.Proofs.Ygdapg
open Go.RowKit

theorem Chg.below0 {w w' : World} (h : Chg No w w') : Below w.heap.size w w' := h.below (Nat.le_refl _) (fun _ h => h.elim)

set_option maxHeartbeats 400000 in
theorem ended_none (w : World) (a : Option Addr) (c : Nat) (b1 b2 b3 b4 b5 b6 l4 l5 m : Nat) (ticks : Int) :
    Calls Yapd.prog 24 #[.slice a 0 c, .agg #[.bool false, .slice (some ⟨b1, 0, none⟩) 0 0, .slice (some ⟨b2, 0, none⟩) 0 0, .slice (some ⟨b3, 0, none⟩) 0 0, .slice (some ⟨b4, 0, none⟩) l4 l4,
      .slice (some ⟨b5, 0, none⟩) l5 l5, .slice (some ⟨b6, 0, none⟩) m m, .int .i64 ticks]] w fun e w' => e = .returned (.bool true) ∧ Chg No w w' := by
  go_enter Yapd.func24, Yapd.ntmps24
  go_wp2_with fail
  have HC : Hid (Chg No w (w.alloc (.cells #[.bool false, .slice (some ⟨b1, 0, none⟩) 0 0, .slice (some ⟨b2, 0, none⟩) 0 0, .slice (some ⟨b3, 0, none⟩) 0 0, .slice (some ⟨b4, 0, none⟩) l4 l4,
      .slice (some ⟨b5, 0, none⟩) l5 l5, .slice (some ⟨b6, 0, none⟩) m m, .int .i64 ticks] 25))) := (Chg.refl _ _).alloc _
  generalize w.alloc (.cells #[.bool false, .slice (some ⟨b1, 0, none⟩) 0 0, .slice (some ⟨b2, 0, none⟩) 0 0, .slice (some ⟨b3, 0, none⟩) 0 0, .slice (some ⟨b4, 0, none⟩) l4 l4,
      .slice (some ⟨b5, 0, none⟩) l5 l5, .slice (some ⟨b6, 0, none⟩) m m, .int .i64 ticks] 25) = W at *
  go_loopw [5] (fun i wr => i = .int .i64 0 ∧ wr = W) (fun i _ => 0)
  case atStart => exact ⟨rfl, rfl⟩
  case round =>
    obtain ⟨rfl, rfl⟩ := hrel
    go_wp2_with fail
    go_ret
    exact ⟨rfl, HC.out⟩

theorem ended_any (w : World) (B : Nat) (v : Value) (N : Nat) (pl : Nat → Nat) (pg : Nat → Nat → Int × Int) (q : Int) (hv : ProgsAt B w v N pl pg) (hB : B ≤ w.heap.size) (hI : InB N pl q) (hM : MustEnd N pl pg q) (ps : List Nat)
    (ho : PicksOk PickOk pl pg (bootK N) ps) (hend : (ps.length : Int) = q ∨ ((ps.length : Int) ≤ q ∧ PickOk (runK pl pg (bootK N) ps) (-1))) (b1 b2 b3 b4 b5 b6 : Nat)
    (G1 : w.heap[b1]? = some (.cells (arr N (runK pl pg (bootK N) ps).st) 3 (0, 0))) (G6 : w.heap[b6]? = some (.cells (arr (runK pl pg (bootK N) ps).trace.length fun i => (runK pl pg (bootK N) ps).trace.getD i 0) 3 (0, 0))) :
    Calls Yapd.prog 24 #[v, .agg #[.bool false, .slice (some ⟨b1, 0, none⟩) N N, .slice (some ⟨b2, 0, none⟩) N N, .slice (some ⟨b3, 0, none⟩) N N, .slice (some ⟨b4, 0, none⟩) (runK pl pg (bootK N) ps).pipe.length (runK pl pg (bootK N) ps).pipe.length,
        .slice (some ⟨b5, 0, none⟩) (runK pl pg (bootK N) ps).pipe2.length (runK pl pg (bootK N) ps).pipe2.length, .slice (some ⟨b6, 0, none⟩) (runK pl pg (bootK N) ps).trace.length (runK pl pg (bootK N) ps).trace.length, .int .i64 (runK pl pg (bootK N) ps).ticks]] w
      fun e w' => e = .returned (.bool true) ∧ Chg No w w' := by
  obtain ⟨hN, hq0, hq1, hpl⟩ := hI
  obtain ⟨h3, hran⟩ := ends_plain hM ps ho hend
  have hinv : Inv (runK pl pg (bootK N) ps) := run_inv pickOk_picks ps (bootK N) (Inv.boot N hN) hpl ho
  have hlen : (runK pl pg (bootK N) ps).trace.length = ps.length := by rw [runK_trace_len]; simp [bootK]
  obtain ⟨a, c, rfl, hv⟩ := hv
  by_cases h0 : N = 0
  · subst h0
    exact ended_none w a c _ _ _ _ _ _ _ _ _ _
  · obtain ⟨b, o, pv, rfl, _, hc⟩ := hv (by omega)
    refine ended_in w B b o N c hB hN pl pg pv hpl hc hM.1 b1 b2 b3 b4 b5 b6 _ _ _ _ _ _ G1 G6 (by rw [hlen]; omega) h3 (fun i hi => ?_) hran
    refine hinv.tr _ ?_
    simp [List.getD, hi]

set_option maxHeartbeats 1000000 in
theorem ends_any (w : World) (v : Value) (N : Nat) (pl : Nat → Nat) (pg : Nat → Nat → Int × Int) (q : Int) (HV : Hid (ProgsAt w.heap.size w v N pl pg)) (HS : Hid (Sized N pl)) :
    Calls Yapd.prog 7 #[v, .int .i64 q] w fun e w' => e = .returned (.bool true) ∧ Below w.heap.size w w' := by
  obtain ⟨a, c, rfl, -⟩ := HV.out
  go_enter Yapd.func7, Yapd.ntmps7
  go_wp2_with fail
  refine (inBounds_any w w.heap.size _ N pl pg HV.out HS.out q).mono ?_
  rintro e w' ⟨⟨r, rfl, hr⟩, hw⟩
  subst w'
  have HR : Hid (r = true ↔ InB N pl q) := hr
  clear hr
  cases r
  · go_wp2_with fail
    go_ret
    exact ⟨rfl, Below.refl _ _⟩
  · have HI : Hid (InB N pl q) := HR.out.1 rfl
    clear HR
    go_wp2_with fail
    refine (mustEnd_any w w.heap.size _ N pl pg HV.out q HI.out).mono ?_
    rintro e w' ⟨⟨r, rfl, hr⟩, hw⟩
    subst w'
    have HR : Hid (r = true → MustEnd N pl pg q) := hr
    clear hr
    cases r
    · go_wp2_with fail
      go_ret
      exact ⟨rfl, Below.refl _ _⟩
    · have HM : Hid (MustEnd N pl pg q) := HR.out rfl
      clear HR
      go_wp2_with fail
      refine (modelRun_in w w.heap.size a N c q pl pg HV (Nat.le_refl _) HI).mono ?_
      rintro e w1 ⟨ps, b1, b2, b3, b4, b5, b6, rfl, G1, G6, C1, ho, hend⟩
      have HX : Hid (_ ∧ _ ∧ _ ∧ _ ∧ _) := ⟨G1, G6, C1, ho, hend⟩
      clear G1 G6 C1 ho hend
      go_wp2_with fail
      obtain ⟨G1, G6, C1, ho, hend⟩ := HX.out
      refine (ended_any w1 w.heap.size _ N pl pg q (HV.out.below C1.below0) C1.size HI.out HM.out ps ho hend b1 b2 b3 b4 b5 b6 G1 G6).mono ?_
      rintro e w2 ⟨rfl, C2⟩
      have HC : Hid (Chg No w w2) := C1.trans C2
      clear C1 C2 G1 G6 ho hend HX
      go_wp2_with fail
      go_ret
      exact ⟨rfl, HC.out.below0⟩
end Go.Proofs.Ygdapg
