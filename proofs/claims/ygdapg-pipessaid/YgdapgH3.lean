/-
  A history in memory: moments, and what keeps them.
-/
import Derived.Test.YgdapgH2
import Derived.Deep.AppendLies
set_option linter.unusedSimpArgs false
set_option linter.unusedVariables false
namespace Go.Proofs.Ygdapg
open Go.RowKit

/-- A moment: what the history keeps of one quantum. -/
structure Mo where
  p : Int
  kd : Int
  a : Int
  st : Nat → Int
  wo : Nat → Int
  su : Nat → Int
  acc : Nat → Int
  pipe : List Int
  pipe2 : List Int

def lf (l : List Int) : Nat → Int := fun i => l.getD i 0

/-- A slice of numbers, off the arena's free part and off the blocks X. -/
def SlQ (w : World) (V : Value) (X : Nat → Prop) (v : Value) (n : Nat) (f : Nat → Int) : Prop :=
  (n = 0 ∧ ∃ a c, v = .slice a 0 c) ∨ ∃ b o c, v = .slice (some ⟨b, o, none⟩) n c ∧ ¬ X b ∧ ∀ i, i < n → w.cell? ⟨b, o + i, none⟩ = some (.int .i64 (f i)) ∧ ¬ Fr V b (o + i)

section
variable {w w' : World} {V V' v : Value} {X X' S : Nat → Prop} {n : Nat} {f : Nat → Int}
theorem SlQ.sls (h : SlQ w V X v n f) : SlS w V v n f := by
  rcases h with h | ⟨b, o, c, h1, _, h2⟩
  · exact .inl h
  · exact .inr ⟨b, o, c, h1, h2⟩
theorem SlQ.kept (h : SlQ w V X v n f) (hk : KeepChg w V w' V') : SlQ w' V' X v n f := by
  rcases h with h | ⟨b, o, c, rfl, hx, h⟩
  · exact .inl h
  · refine .inr ⟨b, o, c, rfl, hx, fun i hi => ?_⟩
    obtain ⟨h1, h2⟩ := h i hi
    obtain ⟨h3, h4⟩ := hk.cell b (o + i) (cell_lt h1) h2
    exact ⟨by rw [h3]; exact h1, h4⟩
theorem SlQ.chg (h : SlQ w V X v n f) (hc : Chg S w w') (hs : ∀ b, S b → X b) : SlQ w' V X v n f := by
  rcases h with h | ⟨b, o, c, rfl, hx, h⟩
  · exact .inl h
  · refine .inr ⟨b, o, c, rfl, hx, fun i hi => ?_⟩
    obtain ⟨h1, h2⟩ := h i hi
    exact ⟨by rw [hc.cell (p := ⟨b, o + i, none⟩) (cell_lt h1) (fun h => hx (hs b h))]; exact h1, h2⟩
theorem SlQ.moreX (h : SlQ w V X v n f) (hx' : ∀ b, X' b → X b ∨ w.heap.size ≤ b) : SlQ w V X' v n f := by
  by_cases n0 : n = 0
  · subst n0
    rcases h with h | ⟨b, o, c, rfl, _⟩
    · exact .inl h
    · exact .inl ⟨rfl, _, _, rfl⟩
  · rcases h with ⟨h, _⟩ | ⟨b, o, c, rfl, hx, h⟩
    · exact absurd h n0
    · refine .inr ⟨b, o, c, rfl, fun hb => ?_, h⟩
      rcases hx' b hb with h1 | h1
      · exact hx h1
      · have := cell_lt (h 0 (by omega)).1; omega
theorem SlS.slq (h : SlS w V v n f) (hx : ∀ b o m c, v = .slice (some ⟨b, o, none⟩) m c → ¬ X b) : SlQ w V X v n f := by
  rcases h with h | ⟨b, o, c, h1, h2⟩
  · exact .inl h
  · exact .inr ⟨b, o, c, h1, hx b o n c h1, h2⟩
end

/-- The ten cells of a moment. -/
def MoAt (w : World) (V : Value) (X : Nat → Prop) (n : Nat) (cs : List Value) (m : Mo) : Prop :=
  ∃ v1 v2 v3 v4 v5 v6, cs = [.int .i64 m.p, .int .i64 m.kd, .int .i64 m.a, .bool true, v1, v2, v3, v4, v5, v6] ∧ SlQ w V X v1 n m.st ∧ SlQ w V X v2 n m.wo ∧ SlQ w V X v3 n m.su ∧ SlQ w V X v4 n m.acc ∧
    SlQ w V X v5 m.pipe.length (lf m.pipe) ∧ SlQ w V X v6 m.pipe2.length (lf m.pipe2) ∧ m.pipe.length ≤ 3 ∧ m.pipe2.length ≤ 3

section
variable {w w' : World} {V V' v : Value} {X X' S : Nat → Prop} {n : Nat} {cs : List Value} {m : Mo}
theorem MoAt.imp (h : MoAt w V X n cs m) (hq : ∀ v n f, SlQ w V X v n f → SlQ w' V' X' v n f) : MoAt w' V' X' n cs m := by
  obtain ⟨v1, v2, v3, v4, v5, v6, h0, h1, h2, h3, h4, h5, h6, h7⟩ := h
  exact ⟨v1, v2, v3, v4, v5, v6, h0, hq _ _ _ h1, hq _ _ _ h2, hq _ _ _ h3, hq _ _ _ h4, hq _ _ _ h5, hq _ _ _ h6, h7⟩
theorem MoAt.length (h : MoAt w V X n cs m) : cs.length = 10 := by
  obtain ⟨v1, v2, v3, v4, v5, v6, rfl, _⟩ := h; rfl
end

/-- X, and the moments' own block. -/
def XM (X : Nat → Prop) (mv : Value) (b : Nat) : Prop := X b ∨ mv.ownBlock = some b

/-- The moments of a history: the slice mv holds ms. B: blocks from there on are the law's own. -/
structure HistAt (B : Nat) (w : World) (V : Value) (X : Nat → Prop) (n : Nat) (mv : Value) (ms : List Mo) (cf : Nat → List Value) : Prop where
  own : w.ownsRow B 56 10 mv ms.length ((List.range ms.length).flatMap cf)
  mo : ∀ i m, ms[i]? = some m → MoAt w V (XM X mv) n (cf i) m
  off : ∀ g, mv.ownBlock = some g → ¬ X g ∧ ¬ AB V g

theorem ownsRow_of_block {w w' : World} {B : Nat} {e : TypeId} {size : Nat} {v : Value} {n : Nat} {xs : List Value} (h : w.ownsRow B e size v n xs) (hb : ∀ g, v.ownBlock = some g → g < w.heap.size → w'.heap[g]? = w.heap[g]?) : w'.ownsRow B e size v n xs := by
  obtain ⟨h1, h2⟩ := h
  refine ⟨h1, ?_⟩
  rcases h2 with h2 | ⟨g, cap, cur, rfl, hg, hh, r⟩
  · exact .inl h2
  · exact .inr ⟨g, cap, cur, rfl, hg, by rw [hb g rfl (heap_lt hh)]; exact hh, r⟩

section
variable {B : Nat} {w w' : World} {V V' mv : Value} {X X' S : Nat → Prop} {n : Nat} {ms : List Mo} {cf : Nat → List Value}
theorem HistAt.kept (h : HistAt B w V X n mv ms cf) (hk : KeepChg w V w' V') : HistAt B w' V' X n mv ms cf := by
  refine ⟨ownsRow_of_block h.own (fun g hg hlt => hk.chg.block g hlt (h.off g hg).2), fun i m hm => (h.mo i m hm).imp fun v n f hq => hq.kept hk, fun g hg => ⟨(h.off g hg).1, fun hab => ?_⟩⟩
  rcases hk.ab g hab with h1 | h1
  · exact (h.off g hg).2 h1
  · have hlt : g < w.heap.size := by
      rcases h.own.2 with ⟨h2, _⟩ | ⟨g', cap, cur, h2, _, hh, _⟩
      · rw [h2] at hg; cases hg
      · rw [h2] at hg
        obtain rfl : g' = g := by simpa [Value.ownBlock] using hg
        exact heap_lt hh
    omega
theorem HistAt.chg (h : HistAt B w V X n mv ms cf) (hc : Chg S w w') (hs : ∀ b, S b → X b) : HistAt B w' V X n mv ms cf :=
  ⟨ownsRow_of_block h.own (fun g hg hlt => hc.block g hlt (fun hsg => (h.off g hg).1 (hs g hsg))), fun i m hm => (h.mo i m hm).imp fun v n f hq => hq.chg hc fun b hb => .inl (hs b hb), h.off⟩
theorem HistAt.blk_lt (h : HistAt B w V X n mv ms cf) {g : Nat} (hg : mv.ownBlock = some g) : g < w.heap.size := by
  rcases h.own.2 with ⟨h2, _⟩ | ⟨g', cap, cur, h2, _, hh, _⟩
  · rw [h2] at hg; cases hg
  · rw [h2] at hg
    obtain rfl : g' = g := by simpa [Value.ownBlock] using hg
    exact heap_lt hh
theorem HistAt.moreX (h : HistAt B w V X n mv ms cf) (hx' : ∀ b, X' b → X b ∨ w.heap.size ≤ b) : HistAt B w V X' n mv ms cf :=
  ⟨h.own, fun i m hm => (h.mo i m hm).imp fun v n f hq => hq.moreX fun b hb => (by
    rcases hb with hb | hb
    · rcases hx' b hb with h1 | h1
      · exact .inl (.inl h1)
      · exact .inr h1
    · exact .inl (.inr hb)), fun g hg => ⟨fun hx => by
    rcases hx' g hx with h1 | h1
    · exact (h.off g hg).1 h1
    · have := h.blk_lt hg; omega, (h.off g hg).2⟩⟩
theorem HistAt.lessX (h : HistAt B w V X n mv ms cf) (hx' : ∀ b, X' b → X b) : HistAt B w V X' n mv ms cf := h.moreX fun b hb => .inl (hx' b hb)

theorem flatMap_get {cf : Nat → List Value} : ∀ (n : Nat), (∀ i, i < n → (cf i).length = 10) → ∀ i k, i < n → k < 10 → ((List.range n).flatMap cf)[i * 10 + k]? = (cf i)[k]? := by
  intro n
  induction n with
  | zero => intro _ i k hi; omega
  | succ n ih =>
    intro hl i k hi hk
    have hlen : ((List.range n).flatMap cf).length = n * 10 := by
      clear ih hi
      induction n with
      | zero => simp
      | succ n ih2 =>
        rw [List.range_succ, List.flatMap_append, List.length_append, ih2 (fun i hi => hl i (by omega))]
        simp [hl n (by omega)]; omega
    rw [List.range_succ, List.flatMap_append]
    by_cases e : i = n
    · subst e
      rw [List.getElem?_append_right (by omega), hlen]
      simp
    · rw [List.getElem?_append_left (by omega)]
      exact ih (fun i hi => hl i (by omega)) i k (by omega) hk

/-- The cells of the i-th moment. -/
theorem HistAt.cells (h : HistAt B w V X n mv ms cf) {i : Nat} {m : Mo} (hi : ms[i]? = some m) : ∃ g cap, mv = .slice (some ⟨g, 0, none⟩) ms.length cap ∧ w.rangeAt g (i * 10) (cf i) := by
  have hil : i < ms.length := (List.getElem?_eq_some_iff.1 hi).1
  rcases h.own.2 with ⟨_, h2⟩ | ⟨g, cap, cur, h2, _, hh, hc1, hc2, hsz, htk⟩
  · omega
  · refine ⟨g, cap, h2, fun k v hk => ?_⟩
    have hlen := (h.mo i m hi).length
    have hk10 : k < 10 := by have := (List.getElem?_eq_some_iff.1 hk).1; omega
    rw [cell_of hh]
    have e1 := flatMap_get ms.length (fun j hj => (h.mo j ms[j] (by simp [hj])).length) i k hil hk10
    rw [← htk, hk] at e1
    have e2 : (cur.toList.take (ms.length * 10))[i * 10 + k]? = cur.toList[i * 10 + k]? := by
      rw [List.getElem?_take_of_lt (by omega)]
    rw [e2] at e1
    simpa using e1
end
end Go.Proofs.Ygdapg
