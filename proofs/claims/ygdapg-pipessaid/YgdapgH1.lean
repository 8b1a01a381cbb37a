/-
  A history's slices: where they lie; unchanged WALKED.
-/
import Derived.Test.YgdapgC1
import Derived.Test.YgdapgE1
set_option linter.unusedSimpArgs false
set_option linter.unusedVariables false
namespace Go.Proofs.Ygdapg
open Go.RowKit

theorem kcell {w w1 : World} (h : Chg No w w1) {b i : Nat} {v : Value} (hc : w.cell? ⟨b, i, none⟩ = some v) : w1.cell? ⟨b, i, none⟩ = some v := by
  rw [h.cell (p := ⟨b, i, none⟩) (cell_lt hc) (fun h => h)]; exact hc

/-- The value v is a slice of the n numbers f 0 .. f (n-1). -/
def RowAt (w : World) (v : Value) (n : Nat) (f : Nat → Int) : Prop :=
  (n = 0 ∧ ∃ a c, v = .slice a 0 c) ∨ ∃ b o c, v = .slice (some ⟨b, o, none⟩) n c ∧ ∀ i, i < n → w.cell? ⟨b, o + i, none⟩ = some (.int .i64 (f i))

theorem RowAt.chg {w w' : World} {v : Value} {n : Nat} {f : Nat → Int} (h : RowAt w v n f) (hc : Chg No w w') : RowAt w' v n f := by
  rcases h with h | ⟨b, o, c, rfl, h⟩
  · exact .inl h
  · exact .inr ⟨b, o, c, rfl, fun i hi => kcell hc (h i hi)⟩

set_option maxHeartbeats 400000 in
theorem unchanged_len (w : World) (a1 a2 : Option Addr) (n m c1 c2 : Nat) (hn : n ≤ 4096) (hm : m ≤ 4096) (h : n ≠ m) :
    Calls Yapd.prog 78 #[.slice a1 n c1, .slice a2 m c2] w fun e w' => e = .returned (.bool false) ∧ w' = w := by
  have h' : ((n : Int) != (m : Int)) = true := by simp; omega
  clear h
  go_enter Yapd.func78, Yapd.ntmps78
  go_wp2_with fail
  go_ret
  exact ⟨rfl, rfl⟩
set_option maxHeartbeats 400000 in
theorem unchanged_none (w : World) (a1 a2 : Option Addr) (c1 c2 : Nat) :
    Calls Yapd.prog 78 #[.slice a1 0 c1, .slice a2 0 c2] w fun e w' => e = .returned (.bool true) ∧ w' = w := by
  go_enter Yapd.func78, Yapd.ntmps78
  go_wp2_with fail
  go_loop [5] (fun i => i = .int .i64 0) (fun i => 0)
  case atStart => rfl
  case round =>
    subst hrel
    go_wp2_with fail
    go_ret
    exact ⟨rfl, rfl⟩

set_option maxRecDepth 100000 in
set_option maxHeartbeats 1000000 in
theorem unchanged_some (w : World) (b1 o1 c1 b2 o2 c2 n : Nat) (f g : Nat → Int) (hn : n ≤ 4096) (H1 : Hid (∀ i, i < n → w.cell? ⟨b1, o1 + i, none⟩ = some (.int .i64 (f i)))) (H2 : Hid (∀ i, i < n → w.cell? ⟨b2, o2 + i, none⟩ = some (.int .i64 (g i)))) :
    Calls Yapd.prog 78 #[.slice (some ⟨b1, o1, none⟩) n c1, .slice (some ⟨b2, o2, none⟩) n c2] w fun e w' => RetB e (fun r => r = true ↔ ∀ i, i < n → f i = g i) ∧ Chg No w w' := by
  have hnn : ((n : Int) != (n : Int)) = false := by simp
  go_enter Yapd.func78, Yapd.ntmps78
  go_wp2_with fail
  go_loopw [5] (fun i wr => ∃ j : Nat, j ≤ n ∧ i = .int .i64 j ∧ Hid (Chg No w wr) ∧ Hid (∀ i, i < j → f i = g i)) (fun i _ => n - (intOf i).toNat)
  case atStart => exact ⟨0, by omega, rfl, Chg.refl _ _, fun i hi => by omega⟩
  case round =>
    obtain ⟨j, hj, rfl, HC, HE⟩ := hrel
    by_cases hlt : j < n
    · go_wp2_with fail
      have x1 := kcell HC.out (H1.out j hlt)
      have x2 := kcell HC.out (H2.out j hlt)
      refine wp_region_S (fun W => Chg No wr W) [0, 1, 2, 3, 4, 5, 6, 7, 8] (by kernel_rfl) ?_
      have HS : Chg No wr wr.drew := (Chg.refl _ _).drew
      by_cases he : f j = g j
      · have hne : (f j != g j) = false := by simp [he]
        refine wpAnyS_take 0 (Value.slice (some ⟨b1, o1, none⟩) n c1) rfl (by kernel_rfl) (by kernel_rfl) (by kernel_rfl) (by kernel_rfl) (fun _ _ _ h => h) (by rfl) HS (fun _ _ => rfl) ?_
        simp only [Act.put, List.setIfInBounds_toArray, List.set_cons_zero, List.set_cons_succ]
        refine wpAnyS_take 1 (Value.int .i64 (j : Int)) rfl (by kernel_rfl) (by kernel_rfl) (by kernel_rfl) (by kernel_rfl) (fun _ _ _ h => h) (by rfl) HS (fun _ _ => rfl) ?_
        simp only [Act.put, List.setIfInBounds_toArray, List.set_cons_zero, List.set_cons_succ]
        refine wpAnyS_take 2 (Value.pointer (some ⟨b1, o1 + j, none⟩)) rfl (by kernel_rfl) (by kernel_rfl) (by kernel_rfl) (by kernel_rfl) (fun _ _ _ h => h) (by rfl) HS (fun _ _ => run_index23 rfl rfl rfl hlt) ?_
        simp only [Act.put, List.setIfInBounds_toArray, List.set_cons_zero, List.set_cons_succ]
        refine wpAnyS_take 3 (Value.int .i64 (f j)) rfl (by kernel_rfl) (by kernel_rfl) (by kernel_rfl) (by kernel_rfl) (fun _ _ _ h => h) (by rfl) HS (fun _ h => run_load3 rfl rfl (kcell h x1)) ?_
        simp only [Act.put, List.setIfInBounds_toArray, List.set_cons_zero, List.set_cons_succ]
        refine wpAnyS_take 4 (Value.slice (some ⟨b2, o2, none⟩) n c2) rfl (by kernel_rfl) (by kernel_rfl) (by kernel_rfl) (by kernel_rfl) (fun _ _ _ h => h) (by rfl) HS (fun _ _ => rfl) ?_
        simp only [Act.put, List.setIfInBounds_toArray, List.set_cons_zero, List.set_cons_succ]
        refine wpAnyS_take 5 (Value.int .i64 (j : Int)) rfl (by kernel_rfl) (by kernel_rfl) (by kernel_rfl) (by kernel_rfl) (fun _ _ _ h => h) (by rfl) HS (fun _ _ => rfl) ?_
        simp only [Act.put, List.setIfInBounds_toArray, List.set_cons_zero, List.set_cons_succ]
        refine wpAnyS_take 6 (Value.pointer (some ⟨b2, o2 + j, none⟩)) rfl (by kernel_rfl) (by kernel_rfl) (by kernel_rfl) (by kernel_rfl) (fun _ _ _ h => h) (by rfl) HS (fun _ _ => run_index23 rfl rfl rfl hlt) ?_
        simp only [Act.put, List.setIfInBounds_toArray, List.set_cons_zero, List.set_cons_succ]
        refine wpAnyS_take 7 (Value.int .i64 (g j)) rfl (by kernel_rfl) (by kernel_rfl) (by kernel_rfl) (by kernel_rfl) (fun _ _ _ h => h) (by rfl) HS (fun _ h => run_load3 rfl rfl (kcell h x2)) ?_
        simp only [Act.put, List.setIfInBounds_toArray, List.set_cons_zero, List.set_cons_succ]
        refine wpAnyS_take 8 (Value.bool false) rfl (by kernel_rfl) (by kernel_rfl) (by kernel_rfl) (by kernel_rfl) (fun _ _ _ h => h) (by rfl) HS (fun _ _ => run_neq3 rfl rfl rfl hne) ?_
        simp only [Act.put, List.setIfInBounds_toArray, List.set_cons_zero, List.set_cons_succ]
        refine wpAnyS_done (by kernel_rfl) ?_
        have HC1 : Hid (Chg No w wr.drew) := HC.out.drew
        have HE1 : Hid (f j = g j) := he
        clear HS x1 x2 hne he
        go_wp2_with fail
        go_roundw
        case rel => exact ⟨j + 1, by omega, by go_num, HC1, fun i hi => by by_cases e : i = j; (· subst e; exact HE1.out); exact HE.out i (by omega)⟩
        case measure => simp [intOf]; omega
      · have hne : (f j != g j) = true := by simp [he]
        refine wpAnyS_take 0 (Value.slice (some ⟨b1, o1, none⟩) n c1) rfl (by kernel_rfl) (by kernel_rfl) (by kernel_rfl) (by kernel_rfl) (fun _ _ _ h => h) (by rfl) HS (fun _ _ => rfl) ?_
        simp only [Act.put, List.setIfInBounds_toArray, List.set_cons_zero, List.set_cons_succ]
        refine wpAnyS_take 1 (Value.int .i64 (j : Int)) rfl (by kernel_rfl) (by kernel_rfl) (by kernel_rfl) (by kernel_rfl) (fun _ _ _ h => h) (by rfl) HS (fun _ _ => rfl) ?_
        simp only [Act.put, List.setIfInBounds_toArray, List.set_cons_zero, List.set_cons_succ]
        refine wpAnyS_take 2 (Value.pointer (some ⟨b1, o1 + j, none⟩)) rfl (by kernel_rfl) (by kernel_rfl) (by kernel_rfl) (by kernel_rfl) (fun _ _ _ h => h) (by rfl) HS (fun _ _ => run_index23 rfl rfl rfl hlt) ?_
        simp only [Act.put, List.setIfInBounds_toArray, List.set_cons_zero, List.set_cons_succ]
        refine wpAnyS_take 3 (Value.int .i64 (f j)) rfl (by kernel_rfl) (by kernel_rfl) (by kernel_rfl) (by kernel_rfl) (fun _ _ _ h => h) (by rfl) HS (fun _ h => run_load3 rfl rfl (kcell h x1)) ?_
        simp only [Act.put, List.setIfInBounds_toArray, List.set_cons_zero, List.set_cons_succ]
        refine wpAnyS_take 4 (Value.slice (some ⟨b2, o2, none⟩) n c2) rfl (by kernel_rfl) (by kernel_rfl) (by kernel_rfl) (by kernel_rfl) (fun _ _ _ h => h) (by rfl) HS (fun _ _ => rfl) ?_
        simp only [Act.put, List.setIfInBounds_toArray, List.set_cons_zero, List.set_cons_succ]
        refine wpAnyS_take 5 (Value.int .i64 (j : Int)) rfl (by kernel_rfl) (by kernel_rfl) (by kernel_rfl) (by kernel_rfl) (fun _ _ _ h => h) (by rfl) HS (fun _ _ => rfl) ?_
        simp only [Act.put, List.setIfInBounds_toArray, List.set_cons_zero, List.set_cons_succ]
        refine wpAnyS_take 6 (Value.pointer (some ⟨b2, o2 + j, none⟩)) rfl (by kernel_rfl) (by kernel_rfl) (by kernel_rfl) (by kernel_rfl) (fun _ _ _ h => h) (by rfl) HS (fun _ _ => run_index23 rfl rfl rfl hlt) ?_
        simp only [Act.put, List.setIfInBounds_toArray, List.set_cons_zero, List.set_cons_succ]
        refine wpAnyS_take 7 (Value.int .i64 (g j)) rfl (by kernel_rfl) (by kernel_rfl) (by kernel_rfl) (by kernel_rfl) (fun _ _ _ h => h) (by rfl) HS (fun _ h => run_load3 rfl rfl (kcell h x2)) ?_
        simp only [Act.put, List.setIfInBounds_toArray, List.set_cons_zero, List.set_cons_succ]
        refine wpAnyS_take 8 (Value.bool true) rfl (by kernel_rfl) (by kernel_rfl) (by kernel_rfl) (by kernel_rfl) (fun _ _ _ h => h) (by rfl) HS (fun _ _ => run_neq3 rfl rfl rfl hne) ?_
        simp only [Act.put, List.setIfInBounds_toArray, List.set_cons_zero, List.set_cons_succ]
        refine wpAnyS_done (by kernel_rfl) ?_
        have HC1 : Hid (Chg No w wr.drew) := HC.out.drew
        have HE1 : Hid (f j ≠ g j) := he
        clear HS x1 x2 hne he
        go_wp2_with fail
        go_ret
        exact ⟨⟨false, rfl, by simp; exact ⟨j, hlt, HE1.out⟩⟩, HC1.out⟩
    · go_wp2_with fail
      go_ret
      exact ⟨⟨true, rfl, by simp; exact fun i hi => HE.out i (by omega)⟩, HC.out⟩

theorem unchanged_any (w : World) (v1 v2 : Value) (n m : Nat) (f g : Nat → Int) (h1 : RowAt w v1 n f) (h2 : RowAt w v2 m g) (hn : n ≤ 4096) (hm : m ≤ 4096) :
    Calls Yapd.prog 78 #[v1, v2] w fun e w' => RetB e (fun r => r = true ↔ (n = m ∧ ∀ i, i < n → f i = g i)) ∧ Chg No w w' := by
  have s1 : ∃ a c, v1 = .slice a n c := by
    rcases h1 with ⟨rfl, a, c, rfl⟩ | ⟨b, o, c, rfl, _⟩
    · exact ⟨_, _, rfl⟩
    · exact ⟨_, _, rfl⟩
  have s2 : ∃ a c, v2 = .slice a m c := by
    rcases h2 with ⟨rfl, a, c, rfl⟩ | ⟨b, o, c, rfl, _⟩
    · exact ⟨_, _, rfl⟩
    · exact ⟨_, _, rfl⟩
  by_cases hnm : n = m
  · subst hnm
    rcases h1 with ⟨rfl, a, c, rfl⟩ | ⟨b, o, c, rfl, h1⟩
    · obtain ⟨a2, c2, rfl⟩ := s2
      refine (unchanged_none w a a2 c c2).mono ?_
      rintro e w' ⟨rfl, rfl⟩
      exact ⟨⟨true, rfl, by simp⟩, Chg.refl _ _⟩
    · rcases h2 with ⟨rfl, a2, c2, rfl⟩ | ⟨b2, o2, c2, rfl, h2⟩
      · refine (unchanged_none w _ a2 c c2).mono ?_
        rintro e w' ⟨rfl, rfl⟩
        exact ⟨⟨true, rfl, by simp⟩, Chg.refl _ _⟩
      · refine (unchanged_some w b o c b2 o2 c2 n f g hn h1 h2).mono ?_
        rintro e w' ⟨⟨r, rfl, hr⟩, hc⟩
        exact ⟨⟨r, rfl, by simpa using hr⟩, hc⟩
  · obtain ⟨a1, c1, rfl⟩ := s1
    obtain ⟨a2, c2, rfl⟩ := s2
    refine (unchanged_len w a1 a2 n m c1 c2 hn hm hnm).mono ?_
    rintro e w' ⟨rfl, rfl⟩
    exact ⟨⟨false, rfl, by simp [hnm]⟩, Chg.refl _ _⟩
end Go.Proofs.Ygdapg
