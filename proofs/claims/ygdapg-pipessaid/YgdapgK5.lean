/-
  THE KERNEL's SMALL FUNCTIONS, WALKED: put, take.
-/
import Derived.Test.YgdapgK4
set_option linter.unusedSimpArgs false
set_option linter.unusedVariables false
namespace Go.Proofs.Ygdapg
open Go.RowKit

/-- The block pb is the first pipe's, or the second's; l is what it holds. -/
def IsPipe (L : Lay) (k : KS) (pb : Nat) (l : List Int) : Prop := (pb = L.p ∧ l = k.pipe) ∨ (pb = L.q ∧ l = k.pipe2)

theorem KAt.buf {w : World} {L : Lay} {k : KS} (h : KAt w L k) {pb : Nat} {l : List Int} (hp : IsPipe L k pb l) : Buf w pb 3 l ∧ l.length ≤ 3 ∧ L.mem pb := by
  rcases hp with ⟨rfl, rfl⟩ | ⟨rfl, rfl⟩
  · exact ⟨h.p, h.hp, by simp [Lay.mem, Lay.list]⟩
  · exact ⟨h.q, h.hq, by simp [Lay.mem, Lay.list]⟩

theorem Buf.poke {w : World} {b i size : Nat} {l : List Int} (hb : Buf w b size l) (hi : l.length ≤ i) (v : Value) : Buf (w.setCell ⟨b, i, none⟩ v) b size l := by
  obtain ⟨cs, h1, h2, h3⟩ := hb
  refine ⟨_, heap_set_same h1, by simpa using h2, fun j hj => ?_⟩
  rw [Array.getElem?_setIfInBounds_ne (by omega)]
  exact h3 j hj
theorem KAt.poke {w : World} {L : Lay} {k : KS} (h : KAt w L k) {pb i : Nat} {l : List Int} (hp : IsPipe L k pb l) (hi : l.length ≤ i) (v : Value) : KAt (w.setCell ⟨pb, i, none⟩ v) L k := by
  rcases hp with ⟨rfl, rfl⟩ | ⟨rfl, rfl⟩
  · exact h.withP (fun b _ hne => heap_set_ne hne) k.pipe rfl (h.p.poke hi v)
  · exact h.withQ (fun b _ hne => heap_set_ne hne) k.pipe2 rfl (h.q.poke hi v)
theorem Buf.alloc {w : World} {b size : Nat} {l : List Int} (hb : Buf w b size l) (o : Obj) : Buf (w.alloc o) b size l := by
  refine hb.of_heap (Below.heap_alloc w o b ?_)
  obtain ⟨cs, h1, _⟩ := hb
  exact (Array.getElem?_eq_some_iff.1 h1).1

set_option maxHeartbeats 400000 in
theorem put_full (w : World) (L : Lay) (k : KS) (H : Hid (KAt w L k)) (p : Nat) (hp : p < k.n) (pb n : Nat) (hl : 3 ≤ n) (full empty : Int) :
    Calls Yapd.prog 72 #[.pointer (some ⟨L.kb, 0, none⟩), .int .i64 p, .slice (some ⟨pb, 0, none⟩) n 3, .int .i64 full, .int .i64 empty] w fun e w' =>
      e = .returned (.slice (some ⟨pb, 0, none⟩) n 3) ∧ KAt w' L (sleepK k p full) ∧ Chg L.mem w w' := by
  go_enter Yapd.func72, Yapd.ntmps72
  go_wp2_with fail
  refine (sleep_any _ L _ H.out p _ hp).mono ?_
  rintro e w' ⟨rfl, HK, HC⟩
  have HK' : Hid (KAt w' L (sleepK k p full)) := HK
  have HC' : Hid (Chg L.mem w w') := HC
  clear HK HC
  go_wp2_with fail
  go_ret
  exact ⟨rfl, HK'.out, HC'.out⟩

set_option maxHeartbeats 400000 in
theorem put_room (w : World) (L : Lay) (k : KS) (H : Hid (KAt w L k)) (p : Nat) (hp : p < k.n) (pb : Nat) (l : List Int) (HP : Hid (IsPipe L k pb l)) (n : Nat) (Hn : Hid (l.length = n)) (hl : n < 3) (hpc : k.pc p ≤ 32 ∧ 0 ≤ k.pc p) (full empty : Int) :
    Calls Yapd.prog 72 #[.pointer (some ⟨L.kb, 0, none⟩), .int .i64 p, .slice (some ⟨pb, 0, none⟩) n 3, .int .i64 full, .int .i64 empty] w fun e w' =>
      e = .returned (.slice (some ⟨pb, 0, none⟩) (n + 1) 3) ∧ KAt w' L (wake (pcInc k p) empty) ∧ Buf w' pb 3 (l ++ [k.acc p]) ∧ Chg L.mem w w' := by
  have f1 := H.out.f1
  have c1 := H.out.cc hp
  have z1 := H.out.zc p
  have hn := H.out.hn
  go_enter Yapd.func72, Yapd.ntmps72
  go_wp2_with fail
  refine (wake_any _ L (pcInc k p) (H.out.setPc p _) _).mono ?_
  rintro e w1 ⟨rfl, HK, HC⟩
  have HK' : Hid (KAt w1 L (wake (pcInc k p) empty)) := HK
  have HC' : Hid (Chg L.mem w w1) := ((Chg.refl _ _).setCell (.inl (by simp [Lay.mem, Lay.list])) _).trans HC
  clear HK HC f1 c1 z1
  have f2 : w1.cell? ⟨L.kb, 2, none⟩ = some (.slice (some ⟨L.a, 0, none⟩) k.n k.n) := HK'.out.f2
  have c2 : w1.cell? ⟨L.a, p, none⟩ = some (.int .i64 (k.acc p)) := HK'.out.ca (k := wake (pcInc k p) empty) hp
  have hb : Buf w1 pb 3 l := (HK'.out.buf (pb := pb) (l := l) HP.out).1
  obtain ⟨v0, hv0⟩ := hb.some (i := n) (by omega)
  have hz0 : w1.frozen? ⟨pb, n, none⟩ = false := hb.fz
  have hb0 := cell_lt hv0
  have HB : Hid (Buf w1 pb 3 l) := hb
  clear hb
  go_wp2_with fail
  go_ret
  refine ⟨rfl, (HK'.out.poke (l := l) HP.out (by rw [Hn.out]; omega) _).alloc _, ?_, (HC'.out.setCell (.inl (HK'.out.buf (pb := pb) (l := l) HP.out).2.2) _).alloc _⟩
  have := HB.out.push (by rw [Hn.out]; omega) (k.acc p)
  rw [Hn.out] at this
  exact this.alloc _

def pget (k : KS) : Bool → List Int | true => k.pipe | false => k.pipe2
def pset (k : KS) (b : Bool) (l : List Int) : KS := if b then { k with pipe := l } else { k with pipe2 := l }
def Lay.pb (L : Lay) : Bool → Nat | true => L.p | false => L.q
theorem isPipe_of (L : Lay) (k : KS) (b : Bool) : IsPipe L k (L.pb b) (pget k b) := by
  cases b
  · exact .inr ⟨rfl, rfl⟩
  · exact .inl ⟨rfl, rfl⟩
theorem KAt.withPipe {w w' : World} {L : Lay} {k : KS} (h : KAt w L k) (b : Bool) (hne : ∀ i, L.mem i → i ≠ L.pb b → w'.heap[i]? = w.heap[i]?) (l : List Int) (hl : l.length = (pget k b).length) (hb : Buf w' (L.pb b) 3 l) : KAt w' L (pset k b l) := by
  cases b
  · exact h.withQ hne l hl hb
  · exact h.withP hne l hl hb

set_option maxHeartbeats 400000 in
theorem take_empty (w : World) (L : Lay) (k : KS) (H : Hid (KAt w L k)) (p : Nat) (hp : p < k.n) (pb : Nat) (full empty : Int) :
    Calls Yapd.prog 73 #[.pointer (some ⟨L.kb, 0, none⟩), .int .i64 p, .slice (some ⟨pb, 0, none⟩) 0 3, .int .i64 full, .int .i64 empty] w fun e w' =>
      e = .returned (.slice (some ⟨pb, 0, none⟩) 0 3) ∧ KAt w' L (sleepK k p empty) ∧ Chg L.mem w w' := by
  go_enter Yapd.func73, Yapd.ntmps73
  go_wp2_with fail
  refine (sleep_any _ L _ H.out p _ hp).mono ?_
  rintro e w' ⟨rfl, HK, HC⟩
  have HK' : Hid (KAt w' L (sleepK k p empty)) := HK
  have HC' : Hid (Chg L.mem w w') := HC
  clear HK HC
  go_wp2_with fail
  go_ret
  exact ⟨rfl, HK'.out, HC'.out⟩

theorem heap_setCells {b : Nat} {e : TypeId} {fr : Nat × Nat} : ∀ (vs : List Value) (o : Nat) (w : World) (cs : Array Value), w.heap[b]? = some (.cells cs e fr) →
    ∃ cs', (w.setCells b o vs).heap[b]? = some (.cells cs' e fr) ∧ cs'.size = cs.size ∧ (∀ i, i < o → cs'[i]? = cs[i]?) ∧ (∀ i, o + vs.length ≤ i → cs'[i]? = cs[i]?) ∧
      ∀ j, j < vs.length → o + j < cs.size → cs'[o + j]? = vs[j]?
  | [], o, w, cs, h => ⟨cs, h, rfl, fun _ _ => rfl, fun _ _ => rfl, fun j hj => by simp at hj⟩
  | v :: r, o, w, cs, h => by
    obtain ⟨cs', h1, h2, h3, h4, h5⟩ := heap_setCells r (o + 1) (w.setCell ⟨b, o, none⟩ v) _ (heap_set_same h)
    refine ⟨cs', h1, by simpa using h2, fun i hi => ?_, fun i hi => ?_, fun j hj hjs => ?_⟩
    · rw [h3 i (by omega), Array.getElem?_setIfInBounds_ne (by omega)]
    · simp only [List.length_cons] at hi
      rw [h4 i (by omega), Array.getElem?_setIfInBounds_ne (by omega)]
    · cases j with
      | zero =>
        rw [h3 (o + 0) (by omega)]
        simp at hjs
        simp [Array.getElem?_setIfInBounds, hjs]
      | succ j =>
        simp only [List.length_cons] at hj
        have := h5 j (by omega) (by simp; omega)
        rw [show o + (j + 1) = o + 1 + j by omega, this]
        simp
theorem heap_setCells_ne {b b' : Nat} (hne : b' ≠ b) : ∀ (vs : List Value) (o : Nat) (w : World), (w.setCells b o vs).heap[b']? = w.heap[b']?
  | [], _, _ => rfl
  | v :: r, o, w => by rw [World.setCells, heap_setCells_ne hne r (o + 1), heap_set_ne hne]
theorem Chg.setCells {S : Nat → Prop} {a : World} {b : Nat} (hp : S b ∨ a.heap.size ≤ b) : ∀ (vs : List Value) (o : Nat) (w : World), Chg S a w → Chg S a (w.setCells b o vs)
  | [], _, _, h => h
  | v :: r, o, w, h => Chg.setCells hp r (o + 1) _ (h.setCell hp v)

theorem Buf.shift {w : World} {b size : Nat} {x : Int} {r : List Int} (hb : Buf w b size (x :: r)) (hs : (x :: r).length ≤ size) :
    ∃ l, l.length = (x :: r).length ∧ (∀ i, i < r.length → r.getD i 0 = l.getD i 0) ∧ Buf (w.setCells b 0 (r.map (Value.int .i64))) b size l := by
  obtain ⟨cs, h1, h2, h3⟩ := hb
  obtain ⟨cs', g1, g2, g3, g4, g5⟩ := heap_setCells (r.map (Value.int .i64)) 0 w cs h1
  simp only [List.length_map, Nat.zero_add, List.length_cons] at g4 g5 hs h3
  have key : ∀ i, i < r.length → cs'[i]? = Option.some (Value.int .i64 (r.getD i 0)) := fun i hi => by
    rw [g5 i hi (by omega)]
    simp [hi]
  have pre : ∀ i, i < r.length → r.getD i 0 = (r ++ [(x :: r).getD r.length 0]).getD i 0 := fun i hi => by
    simp only [List.getD, List.getElem?_append_left hi]
  refine ⟨r ++ [(x :: r).getD r.length 0], by simp, pre, cs', g1, by omega, fun i hi => ?_⟩
  simp only [List.length_append, List.length_singleton] at hi
  by_cases hir : i < r.length
  · rw [key i hir, pre i hir]
  · have : i = r.length := by omega
    subst this
    rw [g4 _ (Nat.le_refl _), h3 _ (by omega)]
    simp

theorem Buf.drew {w : World} {b size : Nat} {l : List Int} (hb : Buf w b size l) : Buf w.drew b size l := hb.of_heap rfl

set_option maxHeartbeats 400000 in
theorem take_some (w : World) (L : Lay) (k : KS) (H : Hid (KAt w L k)) (p : Nat) (hp : p < k.n) (b : Bool) (x : Int) (r : List Int) (HP : Hid (pget k b = x :: r)) (n : Nat) (Hn : Hid ((x :: r).length = n))
    (hpc : k.pc p ≤ 32 ∧ 0 ≤ k.pc p) (full empty : Int) :
    Calls Yapd.prog 73 #[.pointer (some ⟨L.kb, 0, none⟩), .int .i64 p, .slice (some ⟨L.pb b, 0, none⟩) n 3, .int .i64 full, .int .i64 empty] w fun e w' =>
      e = .returned (.slice (some ⟨L.pb b, 0, none⟩) (n - 1) 3) ∧ (∃ l, l.length = n ∧ KAt w' L (wake (pcInc { pset k b l with acc := upd k.acc p (wrap64 (k.acc p + x)) } p) full)) ∧ Buf w' (L.pb b) 3 r ∧ Chg L.mem w w' := by
  have f2 := H.out.f2
  have c2 := H.out.ca hp
  have z2 := H.out.za p
  have hn := H.out.hn
  obtain ⟨hb, hn3, hmem⟩ := H.out.buf (isPipe_of L k b)
  rw [HP.out] at hb hn3
  have hn3' : n ≤ 3 := by rw [← Hn.out]; exact hn3
  have hn0 : 0 < n := by rw [← Hn.out]; simp
  have HN1 : Hid (r.length = n - 1) := by have := Hn.out; simp at this; unfold Hid; omega
  have x0 := hb.cell (i := 0) (by simp)
  have npa : L.pb b ≠ L.a := by
    obtain ⟨-, -, -, ⟨-, -, n1, n2, -⟩, -⟩ := H.out.ne
    cases b
    · exact n2.symm
    · exact n1.symm
  have nka : L.kb ≠ L.a := by obtain ⟨⟨-, -, n3, -⟩, -⟩ := H.out.ne; exact n3
  have hp0 : (0 : Int) ≤ (p : Int) := by omega
  have hp1 : (p : Int) < (k.n : Int) := by omega
  simp only [List.getD_cons_zero] at x0
  have HB : Hid (Buf w (L.pb b) 3 (x :: r)) := hb
  have Hmem : Hid (L.mem (L.pb b)) := hmem
  clear hb hn3 hmem
  generalize hpb : L.pb b = pb at *
  have Hpb : Hid (L.pb b = pb) := hpb
  clear hpb
  go_enter Yapd.func73, Yapd.ntmps73
  go_wp2_with fail
  go_region
  go_wp2_with fail
  have HB1 : Buf (w.setCell ⟨L.a, p, none⟩ (.int .i64 (wrap64 (k.acc p + x)))).drew pb 3 (x :: r) := (HB.out.set_ne npa).drew
  have HK1 : KAt (w.setCell ⟨L.a, p, none⟩ (.int .i64 (wrap64 (k.acc p + x)))).drew L { k with acc := upd k.acc p (wrap64 (k.acc p + x)) } := (H.out.setAcc p _).drew
  have HC1 : Chg L.mem w (w.setCell ⟨L.a, p, none⟩ (.int .i64 (wrap64 (k.acc p + x)))).drew := ((Chg.refl _ _).setCell (.inl (by simp [Lay.mem, Lay.list])) _).drew
  generalize (w.setCell ⟨L.a, p, none⟩ (.int .i64 (wrap64 (k.acc p + x)))).drew = W at *
  have hlr : r.length = n - 1 := HN1.out
  have hcp := run_copy_cells (P := Yapd.prog) W 23 23 3 3 pb 0 n 3 ⟨pb, 1, none⟩ (n - 1) 2 (r.map (Value.int .i64)) Yapd.underlying23 (by kernel_rfl)
    (by simp only [List.length_map, hlr, Nat.min_def]; split <;> omega)
    (fun j v hj => by
      have hjl : j < r.length := by
        rcases Nat.lt_or_ge j r.length with h | h
        · exact h
        · simp [h] at hj
      have e1 : (⟨pb, 1, none⟩ : Addr).add j = ⟨pb, j + 1, none⟩ := by unfold Addr.add; split <;> simp_all <;> omega
      rw [e1, HB1.cell (i := j + 1) (by simpa using hjl)]
      simp [hjl] at hj ⊢
      exact hj)
    (fun j hj => by
      obtain ⟨v, hv⟩ := HB1.some (i := j) (by simp at hj; omega)
      simp [hv])
    (fun j hj => HB1.fz)
    (fun v hv => by
      obtain ⟨m, -, rfl⟩ := List.mem_map.1 hv
      rfl)
  rw [hcp]
  obtain ⟨l', hl', hpre, hb3⟩ := HB1.shift (by rw [Hn.out]; exact hn3')
  have HK2 : KAt (W.setCells pb 0 (r.map (Value.int .i64))) L { pset k b l' with acc := upd k.acc p (wrap64 (k.acc p + x)) } := by
    have hne : ∀ i, L.mem i → i ≠ L.pb b → (W.setCells pb 0 (r.map (Value.int .i64))).heap[i]? = W.heap[i]? := fun i _ h => heap_setCells_ne (by rw [← Hpb.out]; exact h) _ _ _
    have := HK1.withPipe b hne l' (by rw [hl', ← HP.out]; cases b <;> rfl) (by rw [Hpb.out]; exact hb3)
    cases b <;> exact this
  have HC2 := Chg.setCells (b := pb) (.inl Hmem.out) (r.map (Value.int .i64)) 0 W HC1
  clear hb3 hcp
  have hl2 : Hid (l'.length = n) := by rw [← Hn.out]; exact hl'
  clear hl' HC1 HK1 HB1 hlr x0 f2 c2 z2
  generalize W.setCells pb 0 (r.map (Value.int .i64)) = W2 at *
  have HK : Hid (KAt W2 L { pset k b l' with acc := upd k.acc p (wrap64 (k.acc p + x)) }) := HK2
  have HC : Hid (Chg L.mem w W2) := HC2
  have HPre : Hid (∀ i, i < r.length → r.getD i 0 = l'.getD i 0) := hpre
  have en : (pset k b l').n = k.n := by cases b <;> rfl
  have ep : (pset k b l').pc = k.pc := by cases b <;> rfl
  have f1 := HK.out.f1
  have c1 := HK.out.cc (i := p) (by simp only []; rw [en]; exact hp)
  have z1 := HK.out.zc p
  simp only [en, ep] at f1 c1
  have ncp : L.c ≠ pb := by
    obtain ⟨-, -, ⟨-, -, -, n1, n2, -⟩, -⟩ := H.out.ne
    rw [← Hpb.out]
    cases b
    · exact n2
    · exact n1
  have EP : Hid ((pset k b l').pc = k.pc) := ep
  clear HK2 HC2 hpre en ep
  go_wp2_with fail
  refine (wake_any _ L (pcInc { pset k b l' with acc := upd k.acc p (wrap64 (k.acc p + x)) } p) (by have h := HK.out.setPc p (k.pc p + 1); have e := EP.out; unfold pcInc; simp only [] at h ⊢; rw [e] at h ⊢; exact h) _).mono ?_
  rintro e w1 ⟨rfl, HK3, HC3⟩
  have HK4 : Hid (KAt w1 L (wake (pcInc { pset k b l' with acc := upd k.acc p (wrap64 (k.acc p + x)) } p) full)) := HK3
  have HC4 : Hid (Chg L.mem w w1) := (HC.out.setCell (.inl (by simp [Lay.mem, Lay.list])) _).trans HC3
  clear HC3 HK3
  have HB5 : Hid (Buf w1 pb 3 r) := by
    have h := (HK4.out.buf (isPipe_of L _ b)).1
    have e1 : pget (wake (pcInc { pset k b l' with acc := upd k.acc p (wrap64 (k.acc p + x)) } p) full) b = l' := by cases b <;> rfl
    rw [e1, Hpb.out] at h
    exact h.mono (by rw [hl2.out, HN1.out]; omega) HPre.out
  go_wp2_with fail
  go_ret
  exact ⟨rfl, ⟨l', hl2.out, HK4.out⟩, HB5.out, HC4.out⟩
end Go.Proofs.Ygdapg
