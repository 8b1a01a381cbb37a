/-
  THE STATEMENT Rows.PipesSaid, PROVED.
-/
import Derived.Test.YgdapgOpen
import Derived.Test.YgdapgG6
set_option linter.unusedSimpArgs false
set_option linter.unusedVariables false
namespace Go.Proofs.Ygdapg
open Go.ChangeShapes Go.WideShapes Go.ChangeAt Go.RowKit

set_option maxRecDepth 100000 in
theorem pipes_lifted (os : Os) (started : os.Started) (H : Type) (enc : TypeId × Value → H) :
    ReturnsInHanded {} Yapd.checked os 10 .any (Rows.pipesSpec.pre6 enc Yapd.prog Yapd.f10 Rows.pipesRow.domain false) (Rows.pipesSpec.post enc Yapd.prog Yapd.f10 false true false false) := by
  refine returnsInHanded_of_change (C := Yapd.checked) Yapd.own started (by kernel_rfl) Yapd.func10
    (ChangeSpec.witness6 (enc := enc) (C := Yapd.checked) false ⟨#[], #[.slice none 0 0, .int .i64 0], []⟩ 8 (by kernel_rfl) (by kernel_rfl) (by kernel_rfl) (by kernel_rfl)) ?_
  intro W base args ds gs before hval0 hW hcnd _
  have hval : ∀ (j : Nat) t v, Yapd.f10.params[j]? = some t → args[j]? = some v → Value.okWide Yapd.prog W .any base t v := hval0
  have hW' := hW
  obtain ⟨p, q, hA0, hV, rfl, hfz, hnd⟩ := hW
  have hA : DataW.TrodAll enc Yapd.prog W 0 (fun _ => true) true Yapd.f10.params.toList args.toList ds p := hA0
  rw [Yapd.params10] at hA hval
  obtain ⟨v0, vs0, d0, ds0, p0, q0, hargs, rfl, rfl, h0, r0⟩ := trodAll_cons hA
  obtain ⟨v1, vs1, d1, ds1, p1, q1, rfl, rfl, rfl, h1, r1⟩ := trodAll_cons r0
  obtain ⟨rfl, rfl, rfl⟩ := trodAll_nil r1
  obtain rfl : args = #[v0, v1] := by cases args; simp_all
  obtain ⟨rfl, rfl⟩ := trodVars_none hV
  have k0 := h0
  have lt0 : ∀ x ∈ p0, x.block < W.heap.size := by obtain ⟨m, hm⟩ := k0; exact DataW.trod_lt m _ _ _ hm
  obtain ⟨N, pl, pg, hP, hS⟩ := progs_of_trod h0 (okWide_slice Yapd.underlying22 (hval 0 22 v0 rfl rfl))
  obtain ⟨a1, rfl, rfl, rfl, w1⟩ := open_int Yapd.underlying3 (hval 1 3 v1 rfl rfl) h1
  clear hA0 hval0
  refine (pipes_law W v0 N pl pg a1 hP hS).mono fun e W' ⟨he, bel⟩ => ?_
  subst he
  exact ⟨_, rfl, _, _, _, [], _, [], hW', trodAll_mk1 (shut_bool Yapd.underlying4 _), (trodAll_cons_mk (Below.trod Yapd.laidOut (by kernel_rfl) (of_decide_eq_true (by kernel_rfl)) k0 bel lt0) (trodAll_cons_mk (shut_int Yapd.underlying3 w1) trodAll_mk0)), rfl, bel.frame _, fun h => by cases h⟩

theorem pipes_said : Rows.PipesSaid :=
  OpenClaim.holds_of_wide 10 Yapd.f10 rfl rfl rfl rfl rfl rfl rfl ⟨rfl, rfl, rfl, rfl, rfl⟩ rfl rfl rfl rfl rfl (by kernel_rfl) Yapd.func10 (by kernel_rfl)
    (of_decide_eq_true (by kernel_rfl)) (by unfold Func.isWrapper; first | (rw [if_pos (by decide +kernel)]; kernel_rfl) | (rw [if_neg (by decide +kernel)]; exact ⟨rfl, rfl⟩))
    (fun os started H enc _ => pipes_lifted os started H enc)
end Go.Proofs.Ygdapg
