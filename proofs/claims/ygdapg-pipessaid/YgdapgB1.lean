/-
  Boot, WALKED: eight makes in whatever order.
-/
import Derived.Test.YgdapgP1
set_option linter.unusedSimpArgs false
set_option linter.unusedVariables false
namespace Go.Proofs.Ygdapg
open Go.RowKit

theorem wpAny_inv {P : Program} {md : Region.Mode} {ops : Array Oper} {Q : Exit → Act → World → Prop} (A : Nat → Array Bool → Act → World → Prop)
    (h : ∀ fuel listed a w, A fuel listed a w → wpAny P md ops Q fuel listed a w ∨
      (Region.ready md ops listed ≠ [] ∧ ∃ f, fuel = f + 1 ∧ ∀ i ∈ Region.ready md ops listed, wpOp P ops Q i (A f (listed.setIfInBounds i true)) a w)) :
    ∀ fuel listed a w, A fuel listed a w → wpAny P md ops Q fuel listed a w
  | 0, listed, a, w, ha => by
    rcases h 0 listed a w ha with h0 | ⟨_, f, hf, _⟩
    · exact h0
    · omega
  | fuel + 1, listed, a, w, ha => by
    rcases h (fuel + 1) listed a w ha with h0 | ⟨hne, f, hf, hi⟩
    · exact h0
    · have : f = fuel := by omega
      subst this
      exact ⟨fun e => absurd e hne, fun i hm => wpOp_mono (fun a' w' hA => wpAny_inv A h f _ a' w' hA) (hi i hm)⟩

theorem make_ints (w : World) (l c : Nat) (h : l ≤ c) (hc : c ≤ 4096) : (Instr.makeSlice 23 (.int .i64 l) (.int .i64 c)).run Yapd.prog w = .ok (.slice (some ⟨w.heap.size, 0, none⟩) l c) (w.alloc (.cells (arr c fun _ => 0) 3)) := by
  have hi : ∃ i, Yapd.prog.info? 3 = some i ∧ i.zero = some (.int .i64 0) ∧ i.bytes = 8 ∧ i.size = 1 := ⟨_, rfl, rfl, rfl, rfl⟩
  obtain ⟨i, h1, h2, h3, h4⟩ := hi
  have := run_make (P := Yapd.prog) w 23 3 i (.int .i64 0) Yapd.underlying23 h1 h2 .i64 .i64 l c (by omega) (by omega) (by rw [h3]; omega) (by omega)
  rw [this]
  simp only [Int.toNat_natCast, h4, Nat.mul_one]
  have e : madeCells (Value.int .i64 0).cells c = arr c fun _ => 0 := by
    apply Array.ext
    · simp [madeCells, arr]
    · intro j h1 h2
      simp [madeCells, arr, Value.cells, Nat.mod_one]
  rw [e]

theorem wpOp_make {ops : Array Oper} {Q : Exit → Act → World → Prop} {i : Nat} {o : Oper} {K : Act → World → Prop} {a : Act} {w : World} (ho : ops[i]? = some o) (hg : o.guard = none) {x y : Operand}
    (hop : o.op = .makeSlice 23 x y) {l c : Nat} (hx : a.eval x = .int .i64 l) (hy : a.eval y = .int .i64 c) (hl : l ≤ c) (hc : c ≤ 4096)
    (h : K (a.put o.dst (.slice (some ⟨w.heap.size, 0, none⟩) l c)) (w.alloc (.cells (arr c fun _ => 0) 3))) : wpOp Yapd.prog ops Q i K a w := by
  unfold wpOp
  simp only [ho]
  rw [if_pos (by simp [Region.wanted, hg])]
  left
  unfold Oper.wp
  have hr : (execOp a.eval o).run Yapd.prog w = .ok (.value (.slice (some ⟨w.heap.size, 0, none⟩) l c)) (w.alloc (.cells (arr c fun _ => 0) 3)) := by
    simp [execOp, hop, hx, hy, make_ints w l c hl hc]
  rw [hr]
  exact h

theorem wpOp_val {P : Program} {ops : Array Oper} {Q : Exit → Act → World → Prop} {i : Nat} {o : Oper} {K : Act → World → Prop} {a : Act} {w w' : World} {v : Value} (ho : ops[i]? = some o) (hg : o.guard = none)
    (hr : (execOp a.eval o).run P w = .ok (.value v) w') (h : K (a.put o.dst v) w') : wpOp P ops Q i K a w := by
  unfold wpOp
  simp only [ho]
  rw [if_pos (by simp [Region.wanted, hg])]
  left
  unfold Oper.wp
  rw [hr]
  exact h

/-! ### The eight makes of Boot, whichever of them have been carried out -/
def bset {α : Type} (f : Nat → α) (i : Nat) (v : α) : Nat → α := fun j => if j = i then v else f j
def cap8 (n i : Nat) : Nat := if i < 5 then n else if i < 7 then 3 else 256
def len8 (n i : Nat) : Nat := if i < 5 then n else 0
structure BootA (w0 : World) (n : Nat) (bs : Nat → Bool) (blk : Nat → Nat) (w : World) : Prop where
  chg : Chg No w0 w
  own : ∀ i, i < 8 → bs i = true → w0.heap.size ≤ blk i ∧ w.heap[blk i]? = some (.cells (arr (cap8 n i) fun _ => 0) 3 (0, 0))
  ne : ∀ i j, i < 8 → j < 8 → i ≠ j → bs i = true → bs j = true → blk i ≠ blk j
def bv (n : Nat) (bs : Nat → Bool) (blk : Nat → Nat) (i : Nat) : Value := if bs i = true then .slice (some ⟨blk i, 0, none⟩) (len8 n i) (cap8 n i) else undef
def bootAct (n : Nat) (v : Nat → Value) : Act :=
  { tmps := #[.int .i64 n, undef, .pointer none, .int .i64 n, .bool (decide ((n : Int) < 0)), .int .i64 n, .bool (decide (8 < (n : Int))), .int .i64 n, v 0, .int .i64 n, v 1, .int .i64 n, v 2, .int .i64 n, v 3, .int .i64 n, v 4, v 5, v 6, v 7, undef, undef], defers := [] }
def listedOf (bs : Nat → Bool) : Array Bool := #[true, bs 0, true, bs 1, true, bs 2, true, bs 3, true, bs 4, bs 5, bs 6, bs 7, false, false, false]
def one (b : Bool) : Nat := if b then 0 else 1
def cnt (bs : Nat → Bool) : Nat := one (bs 0) + one (bs 1) + one (bs 2) + one (bs 3) + one (bs 4) + one (bs 5) + one (bs 6) + one (bs 7)

theorem heap_lt {w : World} {b : Nat} {o : Obj} (h : w.heap[b]? = some o) : b < w.heap.size := (Array.getElem?_eq_some_iff.1 h).1

theorem BootA.step {w0 : World} {n : Nat} {bs : Nat → Bool} {blk : Nat → Nat} {w : World} (h : BootA w0 n bs blk w) {i : Nat} (hi : i < 8) (hb : bs i = false) :
    BootA w0 n (bset bs i true) (bset blk i w.heap.size) (w.alloc (.cells (arr (cap8 n i) fun _ => 0) 3)) := by
  refine ⟨h.chg.alloc _, fun j hj hbj => ?_, fun j m hj hm hne h1 h2 => ?_⟩
  · by_cases e : j = i
    · subst e
      simp only [bset, if_true]
      exact ⟨h.chg.size, by show (w.heap.push _)[w.heap.size]? = _; simp⟩
    · simp only [bset, if_neg e] at hbj ⊢
      obtain ⟨g1, g2⟩ := h.own j hj hbj
      exact ⟨g1, by rw [Below.heap_alloc w _ _ (heap_lt g2)]; exact g2⟩
  · by_cases e : j = i
    · subst e
      have e2 : m ≠ j := fun x => hne x.symm
      simp only [bset, if_neg e2] at h2
      simp only [bset, if_true, if_neg e2]
      have := heap_lt (h.own m hm h2).2
      omega
    · by_cases e2 : m = i
      · subst e2
        simp only [bset, if_neg e] at h1
        simp only [bset, if_true, if_neg e]
        have := heap_lt (h.own j hj h1).2
        omega
      · simp only [bset, if_neg e] at h1
        simp only [bset, if_neg e2] at h2
        simp only [bset, if_neg e2, if_neg e]
        exact h.ne j m hj hm hne h1 h2

theorem cnt_step {bs : Nat → Bool} {i f : Nat} (hi : i < 8) (hb : bs i = false) (hf : cnt bs + 3 = f + 1) : f = cnt (bset bs i true) + 3 := by
  have key : cnt bs = cnt (bset bs i true) + 1 := by
    match i, hi with
    | 0, _ | 1, _ | 2, _ | 3, _ | 4, _ | 5, _ | 6, _ | 7, _ => simp [cnt, bset, hb, one] <;> omega
  omega

theorem bootAct_put (n : Nat) (bs : Nat → Bool) (blk : Nat → Nat) (i b : Nat) (hi : i < 8) :
    bootAct n (bv n (bset bs i true) (bset blk i b)) = (bootAct n (bv n bs blk)).put (some (if i < 5 then 8 + 2 * i else 12 + i)) (.slice (some ⟨b, 0, none⟩) (len8 n i) (cap8 n i)) := by
  match i, hi with
  | 0, _ | 1, _ | 2, _ | 3, _ | 4, _ | 5, _ | 6, _ | 7, _ => simp [bootAct, bv, bset, Act.put]

set_option maxHeartbeats 2000000 in
set_option maxRecDepth 100000 in
theorem boot_walk (w : World) (n : Nat) (hn : n ≤ 8) (R : Ending → World → Prop)
    (HR : Hid (∀ bs blk w', BootA w n bs blk w' → (∀ i, i < 8 → bs i = true) → R (.returned (.pointer (some ⟨w'.heap.size, 0, none⟩)))
      (w'.alloc (.cells #[.slice (some ⟨blk 0, 0, none⟩) n n, .slice (some ⟨blk 1, 0, none⟩) n n, .slice (some ⟨blk 2, 0, none⟩) n n, .slice (some ⟨blk 3, 0, none⟩) n n, .slice (some ⟨blk 4, 0, none⟩) n n,
        .slice (some ⟨blk 5, 0, none⟩) 0 3, .slice (some ⟨blk 6, 0, none⟩) 0 3, .int .i64 (-1), .int .i64 0, .slice (some ⟨blk 7, 0, none⟩) 0 256] 73)))) :
    Calls Yapd.prog 34 #[.int .i64 n] w R := by
  go_enter Yapd.func34, Yapd.ntmps34
  go_wp2_with fail
  refine wp_region_any (by kernel_rfl) ?_
  change wpAny _ _ _ _ _ _ _ (World.drew _)
  refine wpAny_take (i := 0) (v := .int .i64 n) rfl (by kernel_rfl) (by kernel_rfl) (by kernel_rfl) (fun _ _ _ h => h) (Or.inl ⟨by rfl, fun _ => by rfl⟩) ?_
  refine wpAny_take (i := 2) (v := .int .i64 n) rfl (by kernel_rfl) (by kernel_rfl) (by kernel_rfl) (fun _ _ _ h => h) (Or.inl ⟨by rfl, fun _ => by rfl⟩) ?_
  refine wpAny_take (i := 4) (v := .int .i64 n) rfl (by kernel_rfl) (by kernel_rfl) (by kernel_rfl) (fun _ _ _ h => h) (Or.inl ⟨by rfl, fun _ => by rfl⟩) ?_
  refine wpAny_take (i := 6) (v := .int .i64 n) rfl (by kernel_rfl) (by kernel_rfl) (by kernel_rfl) (fun _ _ _ h => h) (Or.inl ⟨by rfl, fun _ => by rfl⟩) ?_
  refine wpAny_take (i := 8) (v := .int .i64 n) rfl (by kernel_rfl) (by kernel_rfl) (by kernel_rfl) (fun _ _ _ h => h) (Or.inl ⟨by rfl, fun _ => by rfl⟩) ?_
  refine wpAny_inv (fun fuel listed a w' => ∃ bs blk, fuel = cnt bs + 3 ∧ listed = listedOf bs ∧ a = bootAct n (bv n bs blk) ∧ BootA w n bs blk w') ?_ _ _ _ _
    ⟨fun _ => false, fun _ => 0, rfl, rfl, rfl, (Chg.refl _ _).drew, fun _ _ h => by simp at h, fun _ _ _ _ _ h => by simp at h⟩
  rintro fuel listed a w' ⟨bs, blk, hfuel, rfl, rfl, hB⟩
  by_cases hall : ∀ i, i < 8 → bs i = true
  · left
    have b0 := hall 0 (by omega)
    have b1 := hall 1 (by omega)
    have b2 := hall 2 (by omega)
    have b3 := hall 3 (by omega)
    have b4 := hall 4 (by omega)
    have b5 := hall 5 (by omega)
    have b6 := hall 6 (by omega)
    have b7 := hall 7 (by omega)
    have e1 : listedOf bs = #[true, true, true, true, true, true, true, true, true, true, true, true, true, false, false, false] := by simp [listedOf, b0, b1, b2, b3, b4, b5, b6, b7]
    have e2 : fuel = 3 := by rw [hfuel]; simp [cnt, one, b0, b1, b2, b3, b4, b5, b6, b7]
    have e3 : bootAct n (bv n bs blk) = bootAct n (fun i => .slice (some ⟨blk i, 0, none⟩) (len8 n i) (cap8 n i)) := by simp [bootAct, bv, b0, b1, b2, b3, b4, b5, b6, b7]
    rw [e1, e2, e3]
    have HRR := HR.out bs blk w' hB hall
    clear e1 e2 e3 b0 b1 b2 b3 b4 b5 b6 b7 hfuel
    refine wpAny_all (rs := [13]) (by kernel_rfl) (by simp) ?_
    intro i hi
    obtain rfl : i = 13 := by simpa using hi
    refine wpOp_val (w' := w') (v := .agg #[.slice (some ⟨blk 0, 0, none⟩) n n, .slice (some ⟨blk 1, 0, none⟩) n n, .slice (some ⟨blk 2, 0, none⟩) n n, .slice (some ⟨blk 3, 0, none⟩) n n, .slice (some ⟨blk 4, 0, none⟩) n n,
        .slice (some ⟨blk 5, 0, none⟩) 0 3, .slice (some ⟨blk 6, 0, none⟩) 0 3, .int .i64 (-1), .int .i64 0, .slice (some ⟨blk 7, 0, none⟩) 0 256]) rfl rfl (by first | kernel_rfl | (simp only [bootAct]; go_simp)) ?_
    refine wpAny_all (rs := [14]) (by kernel_rfl) (by simp) ?_
    intro i hi
    obtain rfl : i = 14 := by simpa using hi
    refine wpOp_val (v := .pointer (some ⟨w'.heap.size, 0, none⟩)) rfl rfl (by rfl) ?_
    refine wpAny_all (rs := [15]) (by kernel_rfl) (by simp) ?_
    intro i hi
    obtain rfl : i = 15 := by simpa using hi
    refine wpOp_val (v := .pointer (some ⟨w'.heap.size, 0, none⟩)) rfl rfl (by rfl) ?_
    refine wpAny_done (by kernel_rfl) ?_ _
    change Exit.then _ _ Exit.normal { tmps := #[.int .i64 n, undef, .pointer (some ⟨w'.heap.size, 0, none⟩), .int .i64 n, .bool (decide ((n : Int) < 0)), .int .i64 n, .bool (decide (8 < (n : Int))), .int .i64 n, .slice (some ⟨blk 0, 0, none⟩) n n, .int .i64 n, .slice (some ⟨blk 1, 0, none⟩) n n, .int .i64 n, .slice (some ⟨blk 2, 0, none⟩) n n, .int .i64 n, .slice (some ⟨blk 3, 0, none⟩) n n, .int .i64 n, .slice (some ⟨blk 4, 0, none⟩) n n, .slice (some ⟨blk 5, 0, none⟩) 0 3, .slice (some ⟨blk 6, 0, none⟩) 0 3, .slice (some ⟨blk 7, 0, none⟩) 0 256, .agg #[.slice (some ⟨blk 0, 0, none⟩) n n, .slice (some ⟨blk 1, 0, none⟩) n n, .slice (some ⟨blk 2, 0, none⟩) n n, .slice (some ⟨blk 3, 0, none⟩) n n, .slice (some ⟨blk 4, 0, none⟩) n n, .slice (some ⟨blk 5, 0, none⟩) 0 3, .slice (some ⟨blk 6, 0, none⟩) 0 3, .int .i64 (-1), .int .i64 0, .slice (some ⟨blk 7, 0, none⟩) 0 256], .pointer (some ⟨w'.heap.size, 0, none⟩)], defers := [] } (w'.alloc (.cells #[.slice (some ⟨blk 0, 0, none⟩) n n, .slice (some ⟨blk 1, 0, none⟩) n n, .slice (some ⟨blk 2, 0, none⟩) n n, .slice (some ⟨blk 3, 0, none⟩) n n, .slice (some ⟨blk 4, 0, none⟩) n n, .slice (some ⟨blk 5, 0, none⟩) 0 3, .slice (some ⟨blk 6, 0, none⟩) 0 3, .int .i64 (-1), .int .i64 0, .slice (some ⟨blk 7, 0, none⟩) 0 256] 73))
    go_wp2_with fail
    exact HRR
  · right
    have hex : ∃ i, i < 8 ∧ bs i = false := by
      apply Classical.byContradiction
      intro hno
      exact hall fun i hi => by
        cases hb : bs i
        · exact absurd ⟨i, hi, hb⟩ hno
        · rfl
    refine ⟨?_, cnt bs + 2, by omega, ?_⟩
    · intro hnil
      obtain ⟨i, hi, hb⟩ := hex
      have no : ∀ j, j ∈ Region.ready Region.Mode.any _ (listedOf bs) → False := fun j hj => by rw [hnil] at hj; cases hj
      match i, hi, hb with
      | 0, _, hb => exact no 1 (mem_ready.2 ⟨by simp [listedOf, hb], _, rfl, by simp [listedOf]⟩)
      | 1, _, hb => exact no 3 (mem_ready.2 ⟨by simp [listedOf, hb], _, rfl, by simp [listedOf]⟩)
      | 2, _, hb => exact no 5 (mem_ready.2 ⟨by simp [listedOf, hb], _, rfl, by simp [listedOf]⟩)
      | 3, _, hb => exact no 7 (mem_ready.2 ⟨by simp [listedOf, hb], _, rfl, by simp [listedOf]⟩)
      | 4, _, hb => exact no 9 (mem_ready.2 ⟨by simp [listedOf, hb], _, rfl, by simp [listedOf]⟩)
      | 5, _, hb => exact no 10 (mem_ready.2 ⟨by simp [listedOf, hb], _, rfl, by simp [listedOf]⟩)
      | 6, _, hb => exact no 11 (mem_ready.2 ⟨by simp [listedOf, hb], _, rfl, by simp [listedOf]⟩)
      | 7, _, hb => exact no 12 (mem_ready.2 ⟨by simp [listedOf, hb], _, rfl, by simp [listedOf]⟩)
    · intro i hi
      rw [mem_ready] at hi
      obtain ⟨hi0, o, ho, hd⟩ := hi
      have h16 : i < 16 := (Array.getElem?_eq_some_iff.1 ho).1
      have h16' : i = 0 ∨ i = 1 ∨ i = 2 ∨ i = 3 ∨ i = 4 ∨ i = 5 ∨ i = 6 ∨ i = 7 ∨ i = 8 ∨ i = 9 ∨ i = 10 ∨ i = 11 ∨ i = 12 ∨ i = 13 ∨ i = 14 ∨ i = 15 := by omega
      rcases h16' with rfl | rfl | rfl | rfl | rfl | rfl | rfl | rfl | rfl | rfl | rfl | rfl | rfl | rfl | rfl | rfl
      · exact absurd hi0 (by simp [listedOf])
      · have hb : bs 0 = false := by simpa [listedOf] using hi0
        refine wpOp_make rfl rfl rfl (l := len8 n 0) (c := cap8 n 0) (by rfl) (by rfl) (by simp [len8, cap8]) (by simp [cap8]; try omega) ?_
        exact ⟨bset bs 0 true, bset blk 0 w'.heap.size, cnt_step (i := 0) (by omega) hb (by omega), by simp [listedOf, bset], (bootAct_put n bs blk 0 w'.heap.size (by omega)).symm, hB.step (i := 0) (by omega) hb⟩
      · exact absurd hi0 (by simp [listedOf])
      · have hb : bs 1 = false := by simpa [listedOf] using hi0
        refine wpOp_make rfl rfl rfl (l := len8 n 1) (c := cap8 n 1) (by rfl) (by rfl) (by simp [len8, cap8]) (by simp [cap8]; try omega) ?_
        exact ⟨bset bs 1 true, bset blk 1 w'.heap.size, cnt_step (i := 1) (by omega) hb (by omega), by simp [listedOf, bset], (bootAct_put n bs blk 1 w'.heap.size (by omega)).symm, hB.step (i := 1) (by omega) hb⟩
      · exact absurd hi0 (by simp [listedOf])
      · have hb : bs 2 = false := by simpa [listedOf] using hi0
        refine wpOp_make rfl rfl rfl (l := len8 n 2) (c := cap8 n 2) (by rfl) (by rfl) (by simp [len8, cap8]) (by simp [cap8]; try omega) ?_
        exact ⟨bset bs 2 true, bset blk 2 w'.heap.size, cnt_step (i := 2) (by omega) hb (by omega), by simp [listedOf, bset], (bootAct_put n bs blk 2 w'.heap.size (by omega)).symm, hB.step (i := 2) (by omega) hb⟩
      · exact absurd hi0 (by simp [listedOf])
      · have hb : bs 3 = false := by simpa [listedOf] using hi0
        refine wpOp_make rfl rfl rfl (l := len8 n 3) (c := cap8 n 3) (by rfl) (by rfl) (by simp [len8, cap8]) (by simp [cap8]; try omega) ?_
        exact ⟨bset bs 3 true, bset blk 3 w'.heap.size, cnt_step (i := 3) (by omega) hb (by omega), by simp [listedOf, bset], (bootAct_put n bs blk 3 w'.heap.size (by omega)).symm, hB.step (i := 3) (by omega) hb⟩
      · exact absurd hi0 (by simp [listedOf])
      · have hb : bs 4 = false := by simpa [listedOf] using hi0
        refine wpOp_make rfl rfl rfl (l := len8 n 4) (c := cap8 n 4) (by rfl) (by rfl) (by simp [len8, cap8]) (by simp [cap8]; try omega) ?_
        exact ⟨bset bs 4 true, bset blk 4 w'.heap.size, cnt_step (i := 4) (by omega) hb (by omega), by simp [listedOf, bset], (bootAct_put n bs blk 4 w'.heap.size (by omega)).symm, hB.step (i := 4) (by omega) hb⟩
      · have hb : bs 5 = false := by simpa [listedOf] using hi0
        refine wpOp_make rfl rfl rfl (l := len8 n 5) (c := cap8 n 5) (by rfl) (by rfl) (by simp [len8, cap8]) (by simp [cap8]; try omega) ?_
        exact ⟨bset bs 5 true, bset blk 5 w'.heap.size, cnt_step (i := 5) (by omega) hb (by omega), by simp [listedOf, bset], (bootAct_put n bs blk 5 w'.heap.size (by omega)).symm, hB.step (i := 5) (by omega) hb⟩
      · have hb : bs 6 = false := by simpa [listedOf] using hi0
        refine wpOp_make rfl rfl rfl (l := len8 n 6) (c := cap8 n 6) (by rfl) (by rfl) (by simp [len8, cap8]) (by simp [cap8]; try omega) ?_
        exact ⟨bset bs 6 true, bset blk 6 w'.heap.size, cnt_step (i := 6) (by omega) hb (by omega), by simp [listedOf, bset], (bootAct_put n bs blk 6 w'.heap.size (by omega)).symm, hB.step (i := 6) (by omega) hb⟩
      · have hb : bs 7 = false := by simpa [listedOf] using hi0
        refine wpOp_make rfl rfl rfl (l := len8 n 7) (c := cap8 n 7) (by rfl) (by rfl) (by simp [len8, cap8]) (by simp [cap8]; try omega) ?_
        exact ⟨bset bs 7 true, bset blk 7 w'.heap.size, cnt_step (i := 7) (by omega) hb (by omega), by simp [listedOf, bset], (bootAct_put n bs blk 7 w'.heap.size (by omega)).symm, hB.step (i := 7) (by omega) hb⟩
      · obtain rfl := Option.some.inj ho
        simp [listedOf, Region.binds] at hd
        exact absurd (fun i hi => by match i, hi with | 0, _ | 1, _ | 2, _ | 3, _ | 4, _ | 5, _ | 6, _ | 7, _ => simp [hd]) hall
      · obtain rfl := Option.some.inj ho
        simp [listedOf, Region.binds] at hd
      · obtain rfl := Option.some.inj ho
        simp [listedOf, Region.binds] at hd

/-- The kernel as Boot leaves it. -/
def bootK (n : Nat) : KS := { n := n, st := fun _ => 0, pc := fun _ => 0, acc := fun _ => 0, wo := fun _ => 0, su := fun _ => 0, pipe := [], pipe2 := [], last := -1, ticks := 0, trace := [] }

theorem boot_any (w : World) (n : Nat) (hn : n ≤ 8) :
    Calls Yapd.prog 34 #[.int .i64 n] w fun e w' => ∃ L : Lay, e = .returned (.pointer (some ⟨L.kb, 0, none⟩)) ∧ KAt w' L (bootK n) ∧ (∀ b, L.mem b → w.heap.size ≤ b) ∧ Chg No w w' := by
  refine boot_walk w n hn _ fun bs blk w' hB hall => ?_
  have own := fun i hi => hB.own i hi (hall i hi)
  have ne := fun i j hi hj hij => hB.ne i j hi hj hij (hall i hi) (hall j hj)
  refine ⟨⟨w'.heap.size, blk 0, blk 1, blk 2, blk 3, blk 4, blk 5, blk 6, blk 7⟩, rfl, ?_, ?_, hB.chg.alloc _⟩
  · have lt : ∀ i, i < 8 → blk i < w'.heap.size := fun i hi => heap_lt (own i hi).2
    have hp : ∀ i, i < 8 → (w'.alloc (.cells #[.slice (some ⟨blk 0, 0, none⟩) n n, .slice (some ⟨blk 1, 0, none⟩) n n, .slice (some ⟨blk 2, 0, none⟩) n n, .slice (some ⟨blk 3, 0, none⟩) n n, .slice (some ⟨blk 4, 0, none⟩) n n,
        .slice (some ⟨blk 5, 0, none⟩) 0 3, .slice (some ⟨blk 6, 0, none⟩) 0 3, .int .i64 (-1), .int .i64 0, .slice (some ⟨blk 7, 0, none⟩) 0 256] 73)).heap[blk i]? = some (.cells (arr (cap8 n i) fun _ => 0) 3 (0, 0)) := fun i hi => by
      rw [Below.heap_alloc w' _ _ (lt i hi)]; exact (own i hi).2
    refine { nodup := ?_, hn := hn, hp := by simp [bootK], hq := by simp [bootK], ht := by simp [bootK], kb := ?_, s := ?_, c := ?_, a := ?_, o := ?_, u := ?_, p := ?_, q := ?_, t := ?_ }
    · have l0 := lt 0 (by omega)
      have l1 := lt 1 (by omega)
      have l2 := lt 2 (by omega)
      have l3 := lt 3 (by omega)
      have l4 := lt 4 (by omega)
      have l5 := lt 5 (by omega)
      have l6 := lt 6 (by omega)
      have l7 := lt 7 (by omega)
      simp only [Lay.list, List.nodup_cons, List.mem_cons, List.not_mem_nil, or_false, not_or, not_false_eq_true, List.nodup_nil, and_true]
      refine ⟨⟨?_, ?_, ?_, ?_, ?_, ?_, ?_, ?_⟩, ⟨?_, ?_, ?_, ?_, ?_, ?_, ?_⟩, ⟨?_, ?_, ?_, ?_, ?_, ?_⟩, ⟨?_, ?_, ?_, ?_, ?_⟩, ⟨?_, ?_, ?_, ?_⟩, ⟨?_, ?_, ?_⟩, ⟨?_, ?_⟩, ?_⟩
      all_goals first | exact ne _ _ (by omega) (by omega) (by omega) | omega
    · show (w'.heap.push _)[w'.heap.size]? = _
      simp [bootK]
    · exact hp 0 (by omega)
    · exact hp 1 (by omega)
    · exact hp 2 (by omega)
    · exact hp 3 (by omega)
    · exact hp 4 (by omega)
    · exact ⟨_, hp 5 (by omega), arr_size _ _, fun i hi => by simp [bootK] at hi⟩
    · exact ⟨_, hp 6 (by omega), arr_size _ _, fun i hi => by simp [bootK] at hi⟩
    · exact ⟨_, hp 7 (by omega), arr_size _ _, fun i hi => by simp [bootK] at hi⟩
  · intro b hb
    simp only [Lay.mem, Lay.list, List.mem_cons, List.not_mem_nil, or_false] at hb
    have sz := hB.chg.size
    rcases hb with rfl | rfl | rfl | rfl | rfl | rfl | rfl | rfl | rfl
    · exact sz
    · exact (own 0 (by omega)).1
    · exact (own 1 (by omega)).1
    · exact (own 2 (by omega)).1
    · exact (own 3 (by omega)).1
    · exact (own 4 (by omega)).1
    · exact (own 5 (by omega)).1
    · exact (own 6 (by omega)).1
    · exact (own 7 (by omega)).1
end Go.Proofs.Ygdapg
