/-
  THE STATEMENT Rows.FairPrioSaid, PROVED.
-/
import Derived.Test.YgdapgOpen3
import Derived.Test.YgdapgF3
set_option linter.unusedSimpArgs false
set_option linter.unusedVariables false
namespace Go.Proofs.Ygdapg
open Go.ChangeShapes Go.WideShapes Go.ChangeAt Go.RowKit

set_option maxRecDepth 100000 in
theorem fairPrio_lifted (os : Os) (started : os.Started) (H : Type) (enc : TypeId × Value → H) :
    ReturnsInHanded {} Yapd.checked os 14 .any (Rows.fairPrioSpec.pre6 enc Yapd.prog Yapd.f14 Rows.fairPrioRow.domain false) (Rows.fairPrioSpec.post enc Yapd.prog Yapd.f14 false true false false) := by
  refine returnsInHanded_of_change (C := Yapd.checked) Yapd.own started (by kernel_rfl) Yapd.func14
    (ChangeSpec.witness6 (enc := enc) (C := Yapd.checked) false ⟨#[], #[.slice none 0 0, .slice none 0 0, .int .i64 0], []⟩ 8 (by kernel_rfl) (by kernel_rfl) (by kernel_rfl) (by kernel_rfl)) ?_
  intro W base args ds gs before hval0 hW hcnd _
  have hval : ∀ (j : Nat) t v, Yapd.f14.params[j]? = some t → args[j]? = some v → Value.okWide Yapd.prog W .any base t v := hval0
  have hW' := hW
  obtain ⟨p, q, hA0, hV, rfl, hfz, hnd⟩ := hW
  have hA : DataW.TrodAll enc Yapd.prog W 0 (fun _ => true) true Yapd.f14.params.toList args.toList ds p := hA0
  rw [Yapd.params14] at hA hval
  obtain ⟨v0, vs0, d0, ds0, p0, q0, hargs, rfl, rfl, h0, r0⟩ := trodAll_cons hA
  obtain ⟨v1, vs1, d1, ds1, p1, q1, rfl, rfl, rfl, h1, r1⟩ := trodAll_cons r0
  obtain ⟨v2, vs2, d2, ds2, p2, q2, rfl, rfl, rfl, h2, r2⟩ := trodAll_cons r1
  obtain ⟨rfl, rfl, rfl⟩ := trodAll_nil r2
  obtain rfl : args = #[v0, v1, v2] := by cases args; simp_all
  obtain ⟨rfl, rfl⟩ := trodVars_none hV
  have k0 := h0
  have k1 := h1
  have lt1 : ∀ x ∈ p1, x.block < W.heap.size := by obtain ⟨m, hm⟩ := k1; exact DataW.trod_lt m _ _ _ hm
  have lt0 : ∀ x ∈ p0, x.block < W.heap.size := by obtain ⟨m, hm⟩ := k0; exact DataW.trod_lt m _ _ _ hm
  obtain ⟨N, pl, pg, hP, hS⟩ := progs_of_trod h0 (okWide_slice Yapd.underlying22 (hval 0 22 v0 rfl rfl))
  obtain ⟨n2, pr, hI⟩ := ints_of_trod h1 (okWide_slice Yapd.underlying23 (hval 1 23 v1 rfl rfl))
  obtain ⟨a2, rfl, rfl, rfl, w2⟩ := open_int Yapd.underlying3 (hval 2 3 v2 rfl rfl) h2
  clear hA0 hval0
  refine (fairPrio_law W v0 v1 N pl pg n2 pr a2 hP hS hI).mono fun e W' ⟨he, bel⟩ => ?_
  subst he
  exact ⟨_, rfl, _, _, _, [], _, [], hW', trodAll_mk1 (shut_bool Yapd.underlying4 _), (trodAll_cons_mk (Below.trod Yapd.laidOut (by kernel_rfl) (of_decide_eq_true (by kernel_rfl)) k0 bel lt0) (trodAll_cons_mk (Below.trod Yapd.laidOut (by kernel_rfl) (of_decide_eq_true (by kernel_rfl)) k1 bel lt1) (trodAll_cons_mk (shut_int Yapd.underlying3 w2) trodAll_mk0))), rfl, bel.frame _, fun h => by cases h⟩

theorem fairPrio_said : Rows.FairPrioSaid :=
  OpenClaim.holds_of_wide 14 Yapd.f14 rfl rfl rfl rfl rfl rfl rfl ⟨rfl, rfl, rfl, rfl, rfl⟩ rfl rfl rfl rfl rfl (by kernel_rfl) Yapd.func14 (by kernel_rfl)
    (of_decide_eq_true (by kernel_rfl)) (by unfold Func.isWrapper; first | (rw [if_pos (by decide +kernel)]; kernel_rfl) | (rw [if_neg (by decide +kernel)]; exact ⟨rfl, rfl⟩))
    (fun os started H enc _ => fairPrio_lifted os started H enc)
end Go.Proofs.Ygdapg
