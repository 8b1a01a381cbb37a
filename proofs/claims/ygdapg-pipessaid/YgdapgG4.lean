/-
  pipes, WALKED.
-/
import Derived.Test.YgdapgG3
set_option linter.unusedSimpArgs false
set_option linter.unusedVariables false
namespace Go.Proofs.Ygdapg
open Go.RowKit

/-- A pipe as the judge keeps it: all values written so far, and how many of them were read. -/
def putP (s : List Int × Nat) (a : Int) : List Int × Nat := if 3 ≤ s.1.length - s.2 then s else (s.1 ++ [a], s.2)
def takeP (s : List Int × Nat) : List Int × Nat := if s.1.length ≤ s.2 then s else (s.1, s.2 + 1)
def blockedC (m : Mo) (acc : Nat → Int) (p : Nat) (on : Int) : Prop := m.st p = 2 ∧ m.wo p = on ∧ m.acc p = acc p
def putC (s : List Int × Nat) (m : Mo) (acc : Nat → Int) (p : Nat) (full : Int) : Prop := (3 ≤ s.1.length - s.2 → blockedC m acc p full) ∧ (s.1.length - s.2 < 3 → m.st p = 0 ∧ m.acc p = acc p)
def takeC (s : List Int × Nat) (m : Mo) (acc : Nat → Int) (p : Nat) (empty : Int) : Prop := (s.1.length ≤ s.2 → blockedC m acc p empty) ∧ (s.2 < s.1.length → m.st p = 0 ∧ m.acc p = wrap64 (acc p + lf s.1 s.2))
def accOf (ms : List Mo) : Nat → Nat → Int
  | 0, _ => 0
  | i + 1, q => match ms[i]? with
    | some m => m.acc q
    | none => 0
theorem accOf_succ {ms : List Mo} {i : Nat} {m : Mo} (h : ms[i]? = some m) (q : Nat) : accOf ms (i + 1) q = m.acc q := by simp [accOf, h]
def step1 (m : Mo) (acc : Nat → Int) (s : List Int × Nat) : List Int × Nat := if m.kd = 4 then putP s (acc m.p.toNat) else if m.kd = 5 then takeP s else s
def step2 (m : Mo) (acc : Nat → Int) (s : List Int × Nat) : List Int × Nat := if m.kd = 9 then putP s (acc m.p.toNat) else if m.kd = 10 then takeP s else s
def ps1 (ms : List Mo) : Nat → List Int × Nat
  | 0 => ([], 0)
  | i + 1 => match ms[i]? with
    | some m => step1 m (accOf ms i) (ps1 ms i)
    | none => ps1 ms i
def ps2 (ms : List Mo) : Nat → List Int × Nat
  | 0 => ([], 0)
  | i + 1 => match ms[i]? with
    | some m => step2 m (accOf ms i) (ps2 ms i)
    | none => ps2 ms i
theorem ps1_succ {ms : List Mo} {i : Nat} {m : Mo} (h : ms[i]? = some m) : ps1 ms (i + 1) = step1 m (accOf ms i) (ps1 ms i) := by simp [ps1, h]
theorem ps2_succ {ms : List Mo} {i : Nat} {m : Mo} (h : ms[i]? = some m) : ps2 ms (i + 1) = step2 m (accOf ms i) (ps2 ms i) := by simp [ps2, h]
def PipesOk (N : Nat) (ms : List Mo) : Prop := ∀ (i : Nat) (m : Mo), ms[i]? = some m → (∃ p : Nat, p < N ∧ m.p = (p : Int) ∧ (m.kd = 4 → putC (ps1 ms i) m (accOf ms i) p 5) ∧ (m.kd = 5 → takeC (ps1 ms i) m (accOf ms i) p 6) ∧ (m.kd = 9 → putC (ps2 ms i) m (accOf ms i) p 7) ∧ (m.kd = 10 → takeC (ps2 ms i) m (accOf ms i) p 8)) ∧
  m.pipe = (ps1 ms (i + 1)).1.drop (ps1 ms (i + 1)).2 ∧ m.pipe2 = (ps2 ms (i + 1)).1.drop (ps2 ms (i + 1)).2
theorem putP_le {s : List Int × Nat} {t : Nat} (a : Int) (h : s.1.length ≤ t ∧ s.2 ≤ s.1.length) : (putP s a).1.length ≤ t + 1 ∧ (putP s a).2 ≤ (putP s a).1.length := by
  unfold putP; split
  · exact ⟨by omega, h.2⟩
  · simp; omega
theorem takeP_le {s : List Int × Nat} {t : Nat} (h : s.1.length ≤ t ∧ s.2 ≤ s.1.length) : (takeP s).1.length ≤ t + 1 ∧ (takeP s).2 ≤ (takeP s).1.length := by
  unfold takeP; split
  · exact ⟨by omega, h.2⟩
  · simp; omega
theorem step1_le {s : List Int × Nat} {t : Nat} (m : Mo) (acc : Nat → Int) (h : s.1.length ≤ t ∧ s.2 ≤ s.1.length) : (step1 m acc s).1.length ≤ t + 1 ∧ (step1 m acc s).2 ≤ (step1 m acc s).1.length := by
  unfold step1; split
  · exact putP_le _ h
  · split
    · exact takeP_le h
    · exact ⟨by omega, h.2⟩
theorem step2_le {s : List Int × Nat} {t : Nat} (m : Mo) (acc : Nat → Int) (h : s.1.length ≤ t ∧ s.2 ≤ s.1.length) : (step2 m acc s).1.length ≤ t + 1 ∧ (step2 m acc s).2 ≤ (step2 m acc s).1.length := by
  unfold step2; split
  · exact putP_le _ h
  · split
    · exact takeP_le h
    · exact ⟨by omega, h.2⟩
theorem drop_lf {xs ys : List Int} {k : Nat} (h : ys = xs.drop k) (hk : k ≤ xs.length) : ys.length = xs.length - k ∧ ∀ j, j < ys.length → lf ys j = lf xs (k + j) := by
  subst h
  refine ⟨by simp, fun j hj => ?_⟩
  simp [lf]

theorem written_any (w : World) (N : Nat) (hN : N ≤ 8) (m : Mo) (g i b1 o1 c1 b2 o2 c2 b3 o3 c3 b4 o4 c4 : Nat) (a5 : Option Addr) (c5 : Nat) (a6 : Option Addr) (c6 : Nat) (HMV : Hid (MV w N m g i b1 o1 c1 b2 o2 c2 b3 o3 c3 b4 o4 c4 a5 c5 a6 c6)) (ab ao ac : Nat) (acc : Nat → Int) (HA : Hid (∀ j, j < N → w.cell? ⟨ab, ao + j, none⟩ = some (.int .i64 (acc j)))) (p : Nat) (hp : p < N) (Bs : Nat) (hBs : Bs ≤ w.heap.size) (a0 : Option Addr) (c0 : Nat) (s : List Int × Nat) (n : Nat) (Hn : Hid (s.1.length = n)) (hn : n ≤ 255) (HX : Hid (PV Bs w (.slice a0 n c0) s.1)) (htk : s.2 ≤ n) (on : Int) (hab : ab < Bs) (HLT : Hid (b1 < Bs ∧ b4 < Bs)) (H2 : Hid (putC s m acc p on)) :
    Calls Yapd.prog 48 #[.agg #[.slice a0 n c0, .int .i64 (s.2 : Int)], .agg #[.int .i64 (p : Int), .int .i64 m.kd, .int .i64 m.a, .bool true, .slice (some ⟨b1, o1, none⟩) N c1, .slice (some ⟨b2, o2, none⟩) N c2, .slice (some ⟨b3, o3, none⟩) N c3, .slice (some ⟨b4, o4, none⟩) N c4, .slice a5 m.pipe.length c5, .slice a6 m.pipe2.length c6], .slice (some ⟨ab, ao, none⟩) N ac, .int .i64 on] w (WrPost Bs w (.slice a0 n c0) (putP s (acc p)).1 (putP s (acc p)).2) := by
  by_cases hf : 3 ≤ n - s.2
  · rw [putP, if_pos (by rw [Hn.out]; exact hf)]
    exact written_full w N hN m g i b1 o1 c1 b2 o2 c2 b3 o3 c3 b4 o4 c4 a5 c5 a6 c6 HMV ab ao ac acc HA p hp Bs hBs a0 c0 s.1 n Hn hn HX s.2 htk on hf (H2.out.1 (by rw [Hn.out]; exact hf))
  · rw [putP, if_neg (by rw [Hn.out]; exact hf)]
    exact written_room w N hN m g i b1 o1 c1 b2 o2 c2 b3 o3 c3 b4 o4 c4 a5 c5 a6 c6 HMV ab ao ac acc HA p hp Bs hBs a0 c0 s.1 n Hn hn HX s.2 htk on (by omega) hab HLT (H2.out.2 (by rw [Hn.out]; omega))
theorem taken_any (w : World) (N : Nat) (hN : N ≤ 8) (m : Mo) (g i b1 o1 c1 b2 o2 c2 b3 o3 c3 b4 o4 c4 : Nat) (a5 : Option Addr) (c5 : Nat) (a6 : Option Addr) (c6 : Nat) (HMV : Hid (MV w N m g i b1 o1 c1 b2 o2 c2 b3 o3 c3 b4 o4 c4 a5 c5 a6 c6)) (ab ao ac : Nat) (acc : Nat → Int) (HA : Hid (∀ j, j < N → w.cell? ⟨ab, ao + j, none⟩ = some (.int .i64 (acc j)))) (p : Nat) (hp : p < N) (Bs : Nat) (hBs : Bs ≤ w.heap.size) (a0 : Option Addr) (c0 : Nat) (s : List Int × Nat) (n : Nat) (Hn : Hid (s.1.length = n)) (hn : n ≤ 255) (HX : Hid (PV Bs w (.slice a0 n c0) s.1)) (htk : s.2 ≤ n) (on : Int) (hab : ab < Bs) (HLT : Hid (b1 < Bs ∧ b4 < Bs)) (H2 : Hid (takeC s m acc p on)) :
    Calls Yapd.prog 49 #[.agg #[.slice a0 n c0, .int .i64 (s.2 : Int)], .agg #[.int .i64 (p : Int), .int .i64 m.kd, .int .i64 m.a, .bool true, .slice (some ⟨b1, o1, none⟩) N c1, .slice (some ⟨b2, o2, none⟩) N c2, .slice (some ⟨b3, o3, none⟩) N c3, .slice (some ⟨b4, o4, none⟩) N c4, .slice a5 m.pipe.length c5, .slice a6 m.pipe2.length c6], .slice (some ⟨ab, ao, none⟩) N ac, .int .i64 on] w (WrPost Bs w (.slice a0 n c0) (takeP s).1 (takeP s).2) := by
  by_cases hf : n ≤ s.2
  · rw [takeP, if_pos (by rw [Hn.out]; exact hf)]
    exact taken_empty w N hN m g i b1 o1 c1 b2 o2 c2 b3 o3 c3 b4 o4 c4 a5 c5 a6 c6 HMV ab ao ac acc HA p hp Bs hBs a0 c0 s.1 n Hn hn HX s.2 htk on hf (H2.out.1 (by rw [Hn.out]; exact hf))
  · rw [takeP, if_neg (by rw [Hn.out]; exact hf)]
    exact taken_some w N hN m g i b1 o1 c1 b2 o2 c2 b3 o3 c3 b4 o4 c4 a5 c5 a6 c6 HMV ab ao ac acc HA p hp Bs hBs a0 c0 s.1 n Hn hn HX s.2 htk on (by omega) (by omega) _ rfl (H2.out.2 (by rw [Hn.out]; omega))

set_option maxRecDepth 100000 in
set_option maxHeartbeats 8000000 in
theorem pipes_any (w : World) (B N : Nat) (V mv : Value) (X : Nat → Prop) (ms : List Mo) (cf : Nat → List Value) (H : Hid (HistAt B w V X N mv ms cf)) (hN : N ≤ 8) (M : Nat) (HM : Hid (ms.length = M)) (hM : M ≤ 256) (HK : Hid (PipesOk N ms)) (h0 : Hid (0 < M → 0 < N)) (HV : Hid (∃ a m c, V = .slice a m c)) :
    Calls Yapd.prog 27 #[.agg #[.int .i64 (N : Int), .bool true, mv, V]] w fun e w' => e = .returned (.bool true) ∧ Chg No w w' := by
  obtain ⟨mq, nq, rfl⟩ : ∃ mq nq, mv = .slice mq M nq := by rw [← HM.out]; exact H.out.shape
  obtain ⟨qa, qm, qc, rfl⟩ := HV.out
  go_enter Yapd.func27, Yapd.ntmps27
  go_wp2_with fail
  have hb0 : (((w.alloc (.cells #[.int .i64 (N : Int), .bool true, .slice mq M nq, .slice qa qm qc] 32)).alloc (.cells #[.slice none 0 0, .int .i64 0] 65)).alloc (.cells #[.slice none 0 0, .int .i64 0] 65)).heap[w.heap.size]? = some (.cells #[.int .i64 (N : Int), .bool true, .slice mq M nq, .slice qa qm qc] 32 (0, 0)) := by
    rw [Below.heap_alloc _ _ _ (by simp; omega)]; exact al2_old _ _ _
  have hO0 : (((w.alloc (.cells #[.int .i64 (N : Int), .bool true, .slice mq M nq, .slice qa qm qc] 32)).alloc (.cells #[.slice none 0 0, .int .i64 0] 65)).alloc (.cells #[.slice none 0 0, .int .i64 0] 65)).heap[w.heap.size + 1]? = some (.cells #[.slice none 0 0, .int .i64 0] 65 (0, 0)) := by
    rw [Below.heap_alloc _ _ _ (by simp)]; exact al2_new _ _ _
  have hT0 : (((w.alloc (.cells #[.int .i64 (N : Int), .bool true, .slice mq M nq, .slice qa qm qc] 32)).alloc (.cells #[.slice none 0 0, .int .i64 0] 65)).alloc (.cells #[.slice none 0 0, .int .i64 0] 65)).heap[w.heap.size + 2]? = some (.cells #[.slice none 0 0, .int .i64 0] 65 (0, 0)) := by
    have := heap_alloc_new' ((w.alloc (.cells #[.int .i64 (N : Int), .bool true, .slice mq M nq, .slice qa qm qc] 32)).alloc (.cells #[.slice none 0 0, .int .i64 0] 65)) (.cells #[.slice none 0 0, .int .i64 0] 65)
    simpa using this
  have C0 : Chg No w (((w.alloc (.cells #[.int .i64 (N : Int), .bool true, .slice mq M nq, .slice qa qm qc] 32)).alloc (.cells #[.slice none 0 0, .int .i64 0] 65)).alloc (.cells #[.slice none 0 0, .int .i64 0] 65)) := (((Chg.refl _ _).alloc _).alloc _).alloc _
  have hs0 : (((w.alloc (.cells #[.int .i64 (N : Int), .bool true, .slice mq M nq, .slice qa qm qc] 32)).alloc (.cells #[.slice none 0 0, .int .i64 0] 65)).alloc (.cells #[.slice none 0 0, .int .i64 0] 65)).heap.size = w.heap.size + 3 := by simp
  generalize ((w.alloc (.cells #[.int .i64 (N : Int), .bool true, .slice mq M nq, .slice qa qm qc] 32)).alloc (.cells #[.slice none 0 0, .int .i64 0] 65)).alloc (.cells #[.slice none 0 0, .int .i64 0] 65) = W0 at *
  rw [make_ints W0 N N (Nat.le_refl _) (by omega)]
  simp only [Result.andThen_ok]
  go_wp2_with fail
  have R1 : RowV (W0.alloc (.cells (arr N fun _ => 0) 3)) W0.heap.size N (fun _ => .int .i64 0) := RowV.ints W0 N _
  have C1 : Chg No W0 (W0.alloc (.cells (arr N fun _ => 0) 3)) := (Chg.refl _ _).alloc _
  have hs1 : (W0.alloc (.cells (arr N fun _ => 0) 3)).heap.size = w.heap.size + 4 := by simp [hs0]
  generalize W0.alloc (.cells (arr N fun _ => 0) 3) = W1 at *
  have HB1 : Hid (W1.heap[w.heap.size]? = some (.cells #[.int .i64 (N : Int), .bool true, .slice mq M nq, .slice qa qm qc] 32 (0, 0))) := by unfold Hid; rw [C1.block _ (heap_lt hb0) (fun h => h)]; exact hb0
  have HO1 : Hid (W1.heap[w.heap.size + 1]? = some (.cells #[.slice none 0 0, .int .i64 0] 65 (0, 0))) := by unfold Hid; rw [C1.block _ (heap_lt hO0) (fun h => h)]; exact hO0
  have HT1 : Hid (W1.heap[w.heap.size + 2]? = some (.cells #[.slice none 0 0, .int .i64 0] 65 (0, 0))) := by unfold Hid; rw [C1.block _ (heap_lt hT0) (fun h => h)]; exact hT0
  have HC1 : Hid (Chg No w W1) := C0.trans C1
  rw [hs0] at R1
  have HR1 : Hid (∀ j, j < N → W1.cell? ⟨w.heap.size + 3, 0 + j, none⟩ = some (.int .i64 (accOf ms 0 j))) := fun j hj => by rw [Nat.zero_add]; exact R1.cell hj
  obtain ⟨Bs, hBs⟩ : ∃ Bs, Bs = w.heap.size + 4 := ⟨_, rfl⟩
  have HBS : Hid (Bs = w.heap.size + 4 ∧ W1.heap.size = Bs) := ⟨hBs, by omega⟩
  clear R1 C1 C0 hb0 hO0 hT0 hs0 hs1 hBs
  go_loopw [5, 6] (fun av i wr => ∃ (t ab ao ac : Nat) (a1 : Option Addr) (n1 k1 : Nat) (a2 : Option Addr) (n2 k2 : Nat), t ≤ M ∧ i = .int .i64 t ∧ av = .slice (some ⟨ab, ao, none⟩) N ac ∧ ab < Bs ∧ Hid (∀ j, j < N → wr.cell? ⟨ab, ao + j, none⟩ = some (.int .i64 (accOf ms t j))) ∧
    Hid (wr.heap[w.heap.size + 1]? = some (.cells #[.slice a1 n1 k1, .int .i64 ((ps1 ms t).2 : Int)] 65 (0, 0))) ∧ Hid (wr.heap[w.heap.size + 2]? = some (.cells #[.slice a2 n2 k2, .int .i64 ((ps2 ms t).2 : Int)] 65 (0, 0))) ∧ Hid (PV Bs wr (.slice a1 n1 k1) (ps1 ms t).1) ∧ Hid (PV Bs wr (.slice a2 n2 k2) (ps2 ms t).1) ∧
    Hid (∀ g, (Value.slice a1 n1 k1).ownBlock = some g → ¬ (Value.slice a2 n2 k2).ownBlock = some g) ∧ Hid ((ps1 ms t).1.length = n1 ∧ (ps1 ms t).1.length ≤ t ∧ (ps1 ms t).2 ≤ (ps1 ms t).1.length) ∧ Hid ((ps2 ms t).1.length = n2 ∧ (ps2 ms t).1.length ≤ t ∧ (ps2 ms t).2 ≤ (ps2 ms t).1.length) ∧
    Hid (Chg (fun b => b = w.heap.size + 1 ∨ b = w.heap.size + 2 ∨ Bs ≤ b) W1 wr)) (fun _ i _ => M - (intOf i).toNat)
  case atStart => exact ⟨0, w.heap.size + 3, 0, N, none, 0, 0, none, 0, 0, by omega, rfl, rfl, by have := HBS.out; omega, HR1, HO1, HT1, PV.nil _ _, PV.nil _ _, fun g h => by simp [Value.ownBlock] at h, ⟨rfl, by simp [ps1], by simp [ps1]⟩, ⟨rfl, by simp [ps2], by simp [ps2]⟩, Chg.refl _ _⟩
  case round =>
    clear HR1 HO1 HT1
    obtain ⟨t, ab, ao, ac, a1, n1, k1, a2, n2, k2, ht, rfl, rfl, hab, HR, HO0, HT0, HQ01, HQ02, HDJ0, HN1, HN2, HC⟩ := hrel
    have hbx : wr.heap[w.heap.size]? = some (.cells #[.int .i64 (N : Int), .bool true, .slice mq M nq, .slice qa qm qc] 32 (0, 0)) := by
      rw [HC.out.block _ (heap_lt HB1.out) (fun h => by have := HBS.out; rcases h with h | h | h <;> omega)]; exact HB1.out
    have hx2 : wr.cell? ⟨w.heap.size, 2, none⟩ = some (.slice mq M nq) := by rw [cell_of hbx]; rfl
    have hxl : w.heap.size < wr.heap.size := heap_lt hbx
    clear hbx
    have HCW : Hid (Chg No w wr) := HC1.out.over HC.out (fun b h => by have := HBS.out; rcases h with h | h | h <;> omega)
    by_cases hlt : t < M
    · obtain ⟨m, hm⟩ : ∃ m, ms[t]? = some m := ⟨ms[t]'(by rw [HM.out]; exact hlt), by simp⟩
      have hN0 : 0 < N := h0.out (by omega)
      obtain ⟨g, cap, b1, o1, c1, b2, o2, c2, b3, o3, c3, b4, o4, c4, a5, c5, a6, c6, he, mv0⟩ := H.out.view hN0 hm
      obtain ⟨rfl, -, rfl⟩ : mq = some ⟨g, 0, none⟩ ∧ M = ms.length ∧ nq = cap := by simpa using he
      have HMV : Hid (MV w N m g t b1 o1 c1 b2 o2 c2 b3 o3 c3 b4 o4 c4 a5 c5 a6 c6) := mv0
      obtain ⟨⟨p, hp, hpp, hko⟩, hko2⟩ := HK.out t m hm
      have HKO : Hid (_ ∧ _) := And.intro hko hko2
      have HB4 : Hid (b1 < Bs ∧ b4 < Bs) := ⟨by have := cell_lt (mv0.st 0 hN0); have := HBS.out; omega, by have := cell_lt (mv0.acc 0 hN0); have := HBS.out; omega⟩
      have mv1 := mv0.chg HCW.out
      have d0 := mv1.d0
      rw [hpp] at d0
      have d1 := mv1.d1
      have d2 := mv1.d2
      have d3 := mv1.d3
      have d4 := mv1.d4
      have d5 := mv1.d5
      have d6 := mv1.d6
      have d7 := mv1.d7
      have d8 := mv1.d8
      have d9 := mv1.d9
      have hgl := cell_lt d0
      have HPP : Hid (m.p = (p : Int)) := hpp
      have Hm : Hid (ms[t]? = some m) := hm
      clear he mv0 mv1 hm hpp hko hko2
      obtain ⟨y4, hx4⟩ : ∃ y, (m.kd == 4) = y := ⟨_, rfl⟩
      obtain ⟨y5, hx5⟩ : ∃ y, (m.kd == 5) = y := ⟨_, rfl⟩
      obtain ⟨y9, hx9⟩ : ∃ y, (m.kd == 9) = y := ⟨_, rfl⟩
      obtain ⟨y10, hx10⟩ : ∃ y, (m.kd == 10) = y := ⟨_, rfl⟩
      have hmb : (wr.alloc (.cells #[.int .i64 (p : Int), .int .i64 m.kd, .int .i64 m.a, .bool true, .slice (some ⟨b1, o1, none⟩) N c1, .slice (some ⟨b2, o2, none⟩) N c2, .slice (some ⟨b3, o3, none⟩) N c3, .slice (some ⟨b4, o4, none⟩) N c4, .slice a5 m.pipe.length c5, .slice a6 m.pipe2.length c6] 56)).heap[wr.heap.size]? = some (.cells #[.int .i64 (p : Int), .int .i64 m.kd, .int .i64 m.a, .bool true, .slice (some ⟨b1, o1, none⟩) N c1, .slice (some ⟨b2, o2, none⟩) N c2, .slice (some ⟨b3, o3, none⟩) N c3, .slice (some ⟨b4, o4, none⟩) N c4, .slice a5 m.pipe.length c5, .slice a6 m.pipe2.length c6] 56 (0, 0)) := heap_alloc_new' _ _
      have C2 : Chg No wr (wr.alloc (.cells #[.int .i64 (p : Int), .int .i64 m.kd, .int .i64 m.a, .bool true, .slice (some ⟨b1, o1, none⟩) N c1, .slice (some ⟨b2, o2, none⟩) N c2, .slice (some ⟨b3, o3, none⟩) N c3, .slice (some ⟨b4, o4, none⟩) N c4, .slice a5 m.pipe.length c5, .slice a6 m.pipe2.length c6] 56)) := (Chg.refl _ _).alloc _
      have HOW0 : Hid (w.heap.size + 1 < wr.heap.size ∧ w.heap.size + 2 < wr.heap.size) := ⟨heap_lt HO0.out, heap_lt HT0.out⟩
      cases y4
      · cases y5
        · cases y9
          · cases y10
            · have h4' : m.kd ≠ 4 := by simpa using hx4
              have h5' : m.kd ≠ 5 := by simpa using hx5
              have h9' : m.kd ≠ 9 := by simpa using hx9
              have h10' : m.kd ≠ 10 := by simpa using hx10
              have HS1 : Hid (ps1 ms t = ps1 ms (t + 1)) := by unfold Hid; rw [ps1_succ Hm.out, step1, if_neg h4', if_neg h5']
              have HS2 : Hid (ps2 ms t = ps2 ms (t + 1)) := by unfold Hid; rw [ps2_succ Hm.out, step2, if_neg h9', if_neg h10']
              clear h4' h5' h9' h10'
              have o0 : wr.cell? ⟨w.heap.size + 1, 0, none⟩ = some (.slice a1 n1 k1) := by rw [cell_of HO0.out]; rfl
              have o1' : wr.cell? ⟨w.heap.size + 1, 1, none⟩ = some (.int .i64 ((ps1 ms t).2 : Int)) := by rw [cell_of HO0.out]; rfl
              have p0 : wr.cell? ⟨w.heap.size + 2, 0, none⟩ = some (.slice a2 n2 k2) := by rw [cell_of HT0.out]; rfl
              have p1' : wr.cell? ⟨w.heap.size + 2, 1, none⟩ = some (.int .i64 ((ps2 ms t).2 : Int)) := by rw [cell_of HT0.out]; rfl
              have ol : w.heap.size + 1 < wr.heap.size := HOW0.out.1
              have tl : w.heap.size + 2 < wr.heap.size := HOW0.out.2
              go_wp2_with fail
              generalize wr.alloc (.cells #[.int .i64 (p : Int), .int .i64 m.kd, .int .i64 m.a, .bool true, .slice (some ⟨b1, o1, none⟩) N c1, .slice (some ⟨b2, o2, none⟩) N c2, .slice (some ⟨b3, o3, none⟩) N c3, .slice (some ⟨b4, o4, none⟩) N c4, .slice a5 m.pipe.length c5, .slice a6 m.pipe2.length c6] 56) = W2 at *
              have HC2 : Hid (Chg No wr W2) := C2
              have HMX : Hid (W2.heap[wr.heap.size]? = some (.cells #[.int .i64 (p : Int), .int .i64 m.kd, .int .i64 m.a, .bool true, .slice (some ⟨b1, o1, none⟩) N c1, .slice (some ⟨b2, o2, none⟩) N c2, .slice (some ⟨b3, o3, none⟩) N c3, .slice (some ⟨b4, o4, none⟩) N c4, .slice a5 m.pipe.length c5, .slice a6 m.pipe2.length c6] 56 (0, 0))) := hmb
              have HM2 : Hid (MV W2 N m g t b1 o1 c1 b2 o2 c2 b3 o3 c3 b4 o4 c4 a5 c5 a6 c6) := HMV.out.chg (HCW.out.trans C2)
              have HA2 : Hid (∀ j, j < N → W2.cell? ⟨ab, ao + j, none⟩ = some (.int .i64 (accOf ms t j))) := fun j hj => kch C2 (HR.out j hj)
              have HO2 : Hid (W2.heap[w.heap.size + 1]? = some (.cells #[.slice a1 n1 k1, .int .i64 ((ps1 ms t).2 : Int)] 65 (0, 0))) := by unfold Hid; rw [C2.block _ (heap_lt HO0.out) (fun h => h)]; exact HO0.out
              have HT2 : Hid (W2.heap[w.heap.size + 2]? = some (.cells #[.slice a2 n2 k2, .int .i64 ((ps2 ms t).2 : Int)] 65 (0, 0))) := by unfold Hid; rw [C2.block _ (heap_lt HT0.out) (fun h => h)]; exact HT0.out
              have HQ1 : Hid (PV Bs W2 (.slice a1 n1 k1) (ps1 ms t).1) := HQ01.out.chg C2 (fun _ _ h => h)
              have HQ2 : Hid (PV Bs W2 (.slice a2 n2 k2) (ps2 ms t).1) := HQ02.out.chg C2 (fun _ _ h => h)
              have HMBN : Hid ((¬ (Value.slice a1 n1 k1).ownBlock = some wr.heap.size) ∧ ¬ (Value.slice a2 n2 k2).ownBlock = some wr.heap.size) := ⟨fun h => by have := HQ01.out.lt h; omega, fun h => by have := HQ02.out.lt h; omega⟩
              have HMBL : Hid (Bs ≤ wr.heap.size) := by have := HBS.out; have := HC.out.size; unfold Hid; omega
              clear hmb C2 d0 d1 d2 d3 d4 d5 d6 d7 d8 d9 hgl hx2 hxl o0 o1' p0 p1' ol tl
              generalize wr.heap.size = mb at *
              generalize W2 = W4 at *
              have HO := HO2
              have HT := HT2
              have HM4 := HMX
              have HP1 := HQ1
              have HP2 := HQ2
              have HDJ := HDJ0
              have HC4 : Hid (Chg (fun b => b = w.heap.size + 1 ∨ b = w.heap.size + 2 ∨ Bs ≤ b) W1 W4) := HC.out.trans (HC2.out.mono fun _ h => h.elim)
              have HLA : Hid ((ps1 ms t).1.length = n1 ∧ n1 ≤ 256 ∧ (ps1 ms t).2 ≤ n1) := by have := HN1.out; exact ⟨this.1, by omega, by omega⟩
              have HLB : Hid ((ps2 ms t).1.length = n2 ∧ n2 ≤ 256 ∧ (ps2 ms t).2 ≤ n2) := by have := HN2.out; exact ⟨this.1, by omega, by omega⟩
              have HLX : Hid (n1 ≤ t + 1 ∧ n2 ≤ t + 1) := by have := HN1.out; have := HN2.out; exact ⟨by omega, by omega⟩
              have Q1 := drop_lf (HKO.out.2.1.trans (by rw [← HS1.out])) (show (ps1 ms t).2 ≤ (ps1 ms t).1.length by have := HLA.out; omega)
              have Q2 := drop_lf (HKO.out.2.2.trans (by rw [← HS2.out])) (show (ps2 ms t).2 ≤ (ps2 ms t).1.length by have := HLB.out; omega)
              have HQ1' : Hid (m.pipe.length = (ps1 ms t).1.length - (ps1 ms t).2 ∧ ∀ j, j < m.pipe.length → lf m.pipe j = lf (ps1 ms t).1 ((ps1 ms t).2 + j)) := Q1
              have HQ2' : Hid (m.pipe2.length = (ps2 ms t).1.length - (ps2 ms t).2 ∧ ∀ j, j < m.pipe2.length → lf m.pipe2 j = lf (ps2 ms t).1 ((ps2 ms t).2 + j)) := Q2
              clear Q1 Q2
              have HCN4 : Hid (Chg No w W4) := HC1.out.over HC4.out (fun b h => by have := HBS.out; rcases h with h | h | h <;> omega)
              refine (holds_any W4 a1 k1 (ps1 ms t).1 HP1.out.ints n1 HLA.out.1 HLA.out.2.1 (ps1 ms t).2 HLA.out.2.2 a5 c5 m.pipe (HMV.out.chg HCN4.out).pi m.pipe.length rfl (by have := HQ1'.out.1; rw [HLA.out.1] at this; exact this) HQ1'.out.2).mono ?_
              rintro e W6 ⟨rfl, C6⟩
              have HC6 : Hid (Chg No W4 W6) := C6
              have u0 : W6.cell? ⟨w.heap.size + 2, 0, none⟩ = some (.slice a2 n2 k2) := by rw [C6.cell (p := ⟨w.heap.size + 2, 0, none⟩) (heap_lt HT.out) (fun h => h), cell_of HT.out]; rfl
              have u1 : W6.cell? ⟨w.heap.size + 2, 1, none⟩ = some (.int .i64 ((ps2 ms t).2 : Int)) := by rw [C6.cell (p := ⟨w.heap.size + 2, 1, none⟩) (heap_lt HT.out) (fun h => h), cell_of HT.out]; rfl
              have u8 : W6.cell? ⟨mb, 9, none⟩ = some (.slice a6 m.pipe2.length c6) := by rw [C6.cell (p := ⟨mb, 9, none⟩) (heap_lt HM4.out) (fun h => h), cell_of HM4.out]; rfl
              have ml6 : mb < W6.heap.size := Nat.lt_of_lt_of_le (heap_lt HM4.out) C6.size
              have tl6 : w.heap.size + 2 < W6.heap.size := Nat.lt_of_lt_of_le (heap_lt HT.out) C6.size
              clear C6
              go_wp2_with fail
              refine (holds_any W6 a2 k2 (ps2 ms t).1 (HP2.out.chg HC6.out (fun _ _ h => h)).ints n2 HLB.out.1 HLB.out.2.1 (ps2 ms t).2 HLB.out.2.2 a6 c6 m.pipe2 (HMV.out.chg (HCN4.out.trans HC6.out)).pj m.pipe2.length rfl (by have := HQ2'.out.1; rw [HLB.out.1] at this; exact this) HQ2'.out.2).mono ?_
              rintro e W7 ⟨rfl, C7⟩
              have HC7 : Hid (Chg No W4 W7) := HC6.out.trans C7
              have z7 : W7.cell? ⟨mb, 7, none⟩ = some (.slice (some ⟨b4, o4, none⟩) N c4) := by rw [HC7.out.cell (p := ⟨mb, 7, none⟩) (heap_lt HM4.out) (fun h => h), cell_of HM4.out]; rfl
              have ml7 : mb < W7.heap.size := Nat.lt_of_lt_of_le ml6 C7.size
              clear C7 u0 u1 u8 ml6 tl6
              go_wp2_with fail
              go_roundw
              case rel => exact ⟨t + 1, b4, o4, c4, a1, n1, k1, a2, n2, k2, by omega, by go_num, rfl, HB4.out.2, fun j hj => by rw [accOf_succ Hm.out]; exact (HMV.out.chg (HCN4.out.trans HC7.out)).acc j hj,
                by unfold Hid; rw [← HS1.out, HC7.out.block _ (heap_lt HO.out) (fun h => h)]; exact HO.out, by unfold Hid; rw [← HS2.out, HC7.out.block _ (heap_lt HT.out) (fun h => h)]; exact HT.out,
                by unfold Hid; rw [← HS1.out]; exact HP1.out.chg HC7.out (fun _ _ h => h), by unfold Hid; rw [← HS2.out]; exact HP2.out.chg HC7.out (fun _ _ h => h), HDJ,
                by unfold Hid; rw [← HS1.out]; have := HLA.out; have := HLX.out; exact ⟨by omega, by omega, by omega⟩, by unfold Hid; rw [← HS2.out]; have := HLB.out; have := HLX.out; exact ⟨by omega, by omega, by omega⟩, HC4.out.trans (HC7.out.mono fun _ h => h.elim)⟩
              case measure => simp [intOf]; omega
            · have hk : m.kd = 10 := by simpa using hx10
              have HPC : Hid (takeC (ps2 ms t) m (accOf ms t) p 8) := HKO.out.1.2.2.2 hk
              have HKD : Hid (m.kd = 10) := hk
              clear hk
              have o0 : wr.cell? ⟨w.heap.size + 1, 0, none⟩ = some (.slice a1 n1 k1) := by rw [cell_of HO0.out]; rfl
              have o1' : wr.cell? ⟨w.heap.size + 1, 1, none⟩ = some (.int .i64 ((ps1 ms t).2 : Int)) := by rw [cell_of HO0.out]; rfl
              have p0 : wr.cell? ⟨w.heap.size + 2, 0, none⟩ = some (.slice a2 n2 k2) := by rw [cell_of HT0.out]; rfl
              have p1' : wr.cell? ⟨w.heap.size + 2, 1, none⟩ = some (.int .i64 ((ps2 ms t).2 : Int)) := by rw [cell_of HT0.out]; rfl
              have ol : w.heap.size + 1 < wr.heap.size := HOW0.out.1
              have tl : w.heap.size + 2 < wr.heap.size := HOW0.out.2
              go_wp2_with fail
              generalize wr.alloc (.cells #[.int .i64 (p : Int), .int .i64 m.kd, .int .i64 m.a, .bool true, .slice (some ⟨b1, o1, none⟩) N c1, .slice (some ⟨b2, o2, none⟩) N c2, .slice (some ⟨b3, o3, none⟩) N c3, .slice (some ⟨b4, o4, none⟩) N c4, .slice a5 m.pipe.length c5, .slice a6 m.pipe2.length c6] 56) = W2 at *
              have HC2 : Hid (Chg No wr W2) := C2
              have HMX : Hid (W2.heap[wr.heap.size]? = some (.cells #[.int .i64 (p : Int), .int .i64 m.kd, .int .i64 m.a, .bool true, .slice (some ⟨b1, o1, none⟩) N c1, .slice (some ⟨b2, o2, none⟩) N c2, .slice (some ⟨b3, o3, none⟩) N c3, .slice (some ⟨b4, o4, none⟩) N c4, .slice a5 m.pipe.length c5, .slice a6 m.pipe2.length c6] 56 (0, 0))) := hmb
              have HM2 : Hid (MV W2 N m g t b1 o1 c1 b2 o2 c2 b3 o3 c3 b4 o4 c4 a5 c5 a6 c6) := HMV.out.chg (HCW.out.trans C2)
              have HA2 : Hid (∀ j, j < N → W2.cell? ⟨ab, ao + j, none⟩ = some (.int .i64 (accOf ms t j))) := fun j hj => kch C2 (HR.out j hj)
              have HO2 : Hid (W2.heap[w.heap.size + 1]? = some (.cells #[.slice a1 n1 k1, .int .i64 ((ps1 ms t).2 : Int)] 65 (0, 0))) := by unfold Hid; rw [C2.block _ (heap_lt HO0.out) (fun h => h)]; exact HO0.out
              have HT2 : Hid (W2.heap[w.heap.size + 2]? = some (.cells #[.slice a2 n2 k2, .int .i64 ((ps2 ms t).2 : Int)] 65 (0, 0))) := by unfold Hid; rw [C2.block _ (heap_lt HT0.out) (fun h => h)]; exact HT0.out
              have HQ1 : Hid (PV Bs W2 (.slice a1 n1 k1) (ps1 ms t).1) := HQ01.out.chg C2 (fun _ _ h => h)
              have HQ2 : Hid (PV Bs W2 (.slice a2 n2 k2) (ps2 ms t).1) := HQ02.out.chg C2 (fun _ _ h => h)
              have HMBN : Hid ((¬ (Value.slice a1 n1 k1).ownBlock = some wr.heap.size) ∧ ¬ (Value.slice a2 n2 k2).ownBlock = some wr.heap.size) := ⟨fun h => by have := HQ01.out.lt h; omega, fun h => by have := HQ02.out.lt h; omega⟩
              have HMBL : Hid (Bs ≤ wr.heap.size) := by have := HBS.out; have := HC.out.size; unfold Hid; omega
              clear hmb C2 d0 d1 d2 d3 d4 d5 d6 d7 d8 d9 hgl hx2 hxl o0 o1' p0 p1' ol tl
              generalize wr.heap.size = mb at *
              refine (taken_any W2 N hN m g t b1 o1 c1 b2 o2 c2 b3 o3 c3 b4 o4 c4 a5 c5 a6 c6 HM2 ab ao ac (accOf ms t) HA2 p hp Bs (by have := HBS.out; have := HC.out.size; have := HC2.out.size; omega) a2 k2 (ps2 ms t) n2 HN2.out.1 (by have := HN2.out; omega) HQ2 (by have := HN2.out; omega) 8 hab HB4 HPC).mono ?_
              rintro e w5 ⟨v', rfl, hP, hC, hown⟩
              obtain ⟨A', C', rfl⟩ := hP.shape
              have hle : (takeP (ps2 ms t)).1.length ≤ t + 1 ∧ (takeP (ps2 ms t)).2 ≤ (takeP (ps2 ms t)).1.length := takeP_le ⟨HN2.out.2.1, HN2.out.2.2⟩
              have HSA : Hid (takeP (ps2 ms t) = ps2 ms (t + 1)) := by
                unfold Hid; rw [ps2_succ Hm.out, step2, if_neg (by rw [HKD.out]; decide), if_pos HKD.out]
                skip
              have HSB : Hid (ps1 ms t = ps1 ms (t + 1)) := by
                unfold Hid; rw [ps1_succ Hm.out, step1, if_neg (by rw [HKD.out]; decide), if_neg (by rw [HKD.out]; decide)]
              generalize takeP (ps2 ms t) = SX at *
              have HLE : Hid (SX.1.length ≤ t + 1 ∧ SX.2 ≤ SX.1.length) := hle
              obtain ⟨lx, hlx⟩ : ∃ l, SX.1.length = l := ⟨_, rfl⟩
              have HLN : Hid (SX.1.length = lx ∧ lx ≤ 256 ∧ SX.2 ≤ lx) := ⟨hlx, by have := HLE.out; omega, by have := HLE.out; omega⟩
              have HLO : Hid ((ps1 ms t).1.length = n1 ∧ n1 ≤ 256 ∧ (ps1 ms t).2 ≤ n1) := by have := HN1.out; exact ⟨this.1, by omega, by omega⟩
              have HLX : Hid (lx ≤ t + 1 ∧ n1 ≤ t + 1) := by have := HN1.out; have := HLE.out; exact ⟨by omega, by omega⟩
              rw [hlx] at hP hown ⊢
              clear hle hlx
              have nb : ∀ b, b < Bs → ¬ (Value.slice a2 n2 k2).ownBlock = some b := fun b hb h => by have := HQ2.out.lt h; omega
              have hO5 : w5.heap[w.heap.size + 1]? = some (.cells #[.slice a1 n1 k1, .int .i64 ((ps1 ms t).2 : Int)] 65 (0, 0)) := by rw [hC.block _ (heap_lt HO2.out) (nb _ (by have := HBS.out; omega))]; exact HO2.out
              have hT5 : w5.heap[w.heap.size + 2]? = some (.cells #[.slice a2 n2 k2, .int .i64 ((ps2 ms t).2 : Int)] 65 (0, 0)) := by rw [hC.block _ (heap_lt HT2.out) (nb _ (by have := HBS.out; omega))]; exact HT2.out
              have hM5 : w5.heap[mb]? = some (.cells #[.int .i64 (p : Int), .int .i64 m.kd, .int .i64 m.a, .bool true, .slice (some ⟨b1, o1, none⟩) N c1, .slice (some ⟨b2, o2, none⟩) N c2, .slice (some ⟨b3, o3, none⟩) N c3, .slice (some ⟨b4, o4, none⟩) N c4, .slice a5 m.pipe.length c5, .slice a6 m.pipe2.length c6] 56 (0, 0)) := by rw [hC.block _ (heap_lt HMX.out) HMBN.out.2]; exact HMX.out
              have HP5 : Hid (PV Bs w5 (.slice A' lx C') SX.1) := hP
              have HPO : Hid (PV Bs w5 (.slice a1 n1 k1) (ps1 ms t).1) := HQ1.out.chg hC (fun g hg h => HDJ0.out g hg h)
              have HC5 : Hid (Chg (fun b => (Value.slice a2 n2 k2).ownBlock = some b) W2 w5) := hC
              have HOW : Hid (∀ g, (Value.slice A' lx C').ownBlock = some g → (Value.slice a2 n2 k2).ownBlock = some g ∨ W2.heap.size ≤ g) := hown
              have g0 : w5.cell? ⟨w.heap.size + 1, 0, none⟩ = some (.slice a1 n1 k1) := by rw [cell_of hO5]; rfl
              have g1 : w5.cell? ⟨w.heap.size + 1, 1, none⟩ = some (.int .i64 ((ps1 ms t).2 : Int)) := by rw [cell_of hO5]; rfl
              have g2 : w5.cell? ⟨w.heap.size + 2, 0, none⟩ = some (.slice a2 n2 k2) := by rw [cell_of hT5]; rfl
              have g3 : w5.cell? ⟨w.heap.size + 2, 1, none⟩ = some (.int .i64 ((ps2 ms t).2 : Int)) := by rw [cell_of hT5]; rfl
              have g8 : w5.cell? ⟨mb, 8, none⟩ = some (.slice a5 m.pipe.length c5) := by rw [cell_of hM5]; rfl
              have z50 : w5.frozen? ⟨w.heap.size + 2, 0, none⟩ = false := frozen_of hT5
              have z51 : w5.frozen? ⟨w.heap.size + 2, 1, none⟩ = false := frozen_of hT5
              have l50 : w.heap.size + 1 < w5.heap.size := heap_lt hO5
              have l51 : w.heap.size + 2 < w5.heap.size := heap_lt hT5
              have l52 : mb < w5.heap.size := heap_lt hM5
              have nmo : mb ≠ w.heap.size + 2 := by have := HMBL.out; have := HBS.out; omega
              have HO5 : Hid (w5.heap[w.heap.size + 1]? = some (.cells #[.slice a1 n1 k1, .int .i64 ((ps1 ms t).2 : Int)] 65 (0, 0))) := hO5
              have HT5 : Hid (w5.heap[w.heap.size + 2]? = some (.cells #[.slice a2 n2 k2, .int .i64 ((ps2 ms t).2 : Int)] 65 (0, 0))) := hT5
              have HM5 : Hid (w5.heap[mb]? = some (.cells #[.int .i64 (p : Int), .int .i64 m.kd, .int .i64 m.a, .bool true, .slice (some ⟨b1, o1, none⟩) N c1, .slice (some ⟨b2, o2, none⟩) N c2, .slice (some ⟨b3, o3, none⟩) N c3, .slice (some ⟨b4, o4, none⟩) N c4, .slice a5 m.pipe.length c5, .slice a6 m.pipe2.length c6] 56 (0, 0))) := hM5
              have HNB : Hid (∀ b, b < Bs → ¬ (Value.slice a2 n2 k2).ownBlock = some b) := nb
              clear hP hC hown hO5 hT5 hM5 nb
              go_wp2_with fail
              have hX4 : ((w5.setCell ⟨w.heap.size + 2, 0, none⟩ (.slice A' lx C')).setCell ⟨w.heap.size + 2, 1, none⟩ (.int .i64 (SX.2 : Int))).heap[w.heap.size + 2]? = some (.cells #[.slice A' lx C', .int .i64 (SX.2 : Int)] 65 (0, 0)) := by
                rw [heap_set_same (heap_set_same HT5.out)]; rfl
              have C54 : Chg (fun b => b = w.heap.size + 2) w5 ((w5.setCell ⟨w.heap.size + 2, 0, none⟩ (.slice A' lx C')).setCell ⟨w.heap.size + 2, 1, none⟩ (.int .i64 (SX.2 : Int))) := ((Chg.refl (fun b => b = w.heap.size + 2) _).setCell (p := ⟨w.heap.size + 2, 0, none⟩) (.inl rfl) _).setCell (p := ⟨w.heap.size + 2, 1, none⟩) (.inl rfl) _
              generalize (w5.setCell ⟨w.heap.size + 2, 0, none⟩ (.slice A' lx C')).setCell ⟨w.heap.size + 2, 1, none⟩ (.int .i64 (SX.2 : Int)) = W4 at *
              have HT : Hid (W4.heap[w.heap.size + 2]? = some (.cells #[.slice A' lx C', .int .i64 (SX.2 : Int)] 65 (0, 0))) := hX4
              have HO : Hid (W4.heap[w.heap.size + 1]? = some (.cells #[.slice a1 n1 k1, .int .i64 ((ps1 ms t).2 : Int)] 65 (0, 0))) := by unfold Hid; rw [C54.block _ (heap_lt HO5.out) (by omega)]; exact HO5.out
              have HM4 : Hid (W4.heap[mb]? = some (.cells #[.int .i64 (p : Int), .int .i64 m.kd, .int .i64 m.a, .bool true, .slice (some ⟨b1, o1, none⟩) N c1, .slice (some ⟨b2, o2, none⟩) N c2, .slice (some ⟨b3, o3, none⟩) N c3, .slice (some ⟨b4, o4, none⟩) N c4, .slice a5 m.pipe.length c5, .slice a6 m.pipe2.length c6] 56 (0, 0))) := by unfold Hid; rw [C54.block _ (heap_lt HM5.out) nmo]; exact HM5.out
              have HP2 : Hid (PV Bs W4 (.slice A' lx C') SX.1) := HP5.out.chg C54 (fun g hg e => by have := (HP5.out.lt hg).1; have := HBS.out; omega)
              have HP1 : Hid (PV Bs W4 (.slice a1 n1 k1) (ps1 ms t).1) := HPO.out.chg C54 (fun g hg e => by have := (HPO.out.lt hg).1; have := HBS.out; omega)
              have HDJ : Hid (∀ g, (Value.slice a1 n1 k1).ownBlock = some g → ¬ (Value.slice A' lx C').ownBlock = some g) := fun g h1 h2 => by
                rcases HOW.out g h2 with h | h
                · exact HDJ0.out g h1 h
                · have := (HQ1.out.lt h1).2; omega
              have HC4 : Hid (Chg (fun b => b = w.heap.size + 1 ∨ b = w.heap.size + 2 ∨ Bs ≤ b) W1 W4) := ((HC.out.trans (HC2.out.mono fun _ h => h.elim)).trans (HC5.out.mono fun b h => .inr (.inr (HQ2.out.lt h).1))).trans (C54.mono fun b h => .inr (.inl h))
              have HLA : Hid (_ ∧ _ ∧ _) := HLO
              have HLB : Hid (_ ∧ _ ∧ _) := HLN
              have HS1 := HSB
              have HS2 := HSA
              clear hX4 C54 g0 g1 g2 g3 g8 z50 z51 l50 l51 l52 nmo HSA HSB HLN HLO HO5 HT5 HM5 HP5 HPO
              have Q1 := drop_lf (HKO.out.2.1.trans (by rw [← HS1.out])) (show (ps1 ms t).2 ≤ (ps1 ms t).1.length by have := HLA.out; omega)
              have Q2 := drop_lf (HKO.out.2.2.trans (by rw [← HS2.out])) (show (SX).2 ≤ (SX).1.length by have := HLB.out; omega)
              have HQ1' : Hid (m.pipe.length = (ps1 ms t).1.length - (ps1 ms t).2 ∧ ∀ j, j < m.pipe.length → lf m.pipe j = lf (ps1 ms t).1 ((ps1 ms t).2 + j)) := Q1
              have HQ2' : Hid (m.pipe2.length = (SX).1.length - (SX).2 ∧ ∀ j, j < m.pipe2.length → lf m.pipe2 j = lf (SX).1 ((SX).2 + j)) := Q2
              clear Q1 Q2
              have HCN4 : Hid (Chg No w W4) := HC1.out.over HC4.out (fun b h => by have := HBS.out; rcases h with h | h | h <;> omega)
              refine (holds_any W4 a1 k1 (ps1 ms t).1 HP1.out.ints n1 HLA.out.1 HLA.out.2.1 (ps1 ms t).2 HLA.out.2.2 a5 c5 m.pipe (HMV.out.chg HCN4.out).pi m.pipe.length rfl (by have := HQ1'.out.1; rw [HLA.out.1] at this; exact this) HQ1'.out.2).mono ?_
              rintro e W6 ⟨rfl, C6⟩
              have HC6 : Hid (Chg No W4 W6) := C6
              have u0 : W6.cell? ⟨w.heap.size + 2, 0, none⟩ = some (.slice A' lx C') := by rw [C6.cell (p := ⟨w.heap.size + 2, 0, none⟩) (heap_lt HT.out) (fun h => h), cell_of HT.out]; rfl
              have u1 : W6.cell? ⟨w.heap.size + 2, 1, none⟩ = some (.int .i64 ((SX).2 : Int)) := by rw [C6.cell (p := ⟨w.heap.size + 2, 1, none⟩) (heap_lt HT.out) (fun h => h), cell_of HT.out]; rfl
              have u8 : W6.cell? ⟨mb, 9, none⟩ = some (.slice a6 m.pipe2.length c6) := by rw [C6.cell (p := ⟨mb, 9, none⟩) (heap_lt HM4.out) (fun h => h), cell_of HM4.out]; rfl
              have ml6 : mb < W6.heap.size := Nat.lt_of_lt_of_le (heap_lt HM4.out) C6.size
              have tl6 : w.heap.size + 2 < W6.heap.size := Nat.lt_of_lt_of_le (heap_lt HT.out) C6.size
              clear C6
              go_wp2_with fail
              refine (holds_any W6 A' C' (SX).1 (HP2.out.chg HC6.out (fun _ _ h => h)).ints lx HLB.out.1 HLB.out.2.1 (SX).2 HLB.out.2.2 a6 c6 m.pipe2 (HMV.out.chg (HCN4.out.trans HC6.out)).pj m.pipe2.length rfl (by have := HQ2'.out.1; rw [HLB.out.1] at this; exact this) HQ2'.out.2).mono ?_
              rintro e W7 ⟨rfl, C7⟩
              have HC7 : Hid (Chg No W4 W7) := HC6.out.trans C7
              have z7 : W7.cell? ⟨mb, 7, none⟩ = some (.slice (some ⟨b4, o4, none⟩) N c4) := by rw [HC7.out.cell (p := ⟨mb, 7, none⟩) (heap_lt HM4.out) (fun h => h), cell_of HM4.out]; rfl
              have ml7 : mb < W7.heap.size := Nat.lt_of_lt_of_le ml6 C7.size
              clear C7 u0 u1 u8 ml6 tl6
              go_wp2_with fail
              go_roundw
              case rel => exact ⟨t + 1, b4, o4, c4, a1, n1, k1, A', lx, C', by omega, by go_num, rfl, HB4.out.2, fun j hj => by rw [accOf_succ Hm.out]; exact (HMV.out.chg (HCN4.out.trans HC7.out)).acc j hj,
                by unfold Hid; rw [← HS1.out, HC7.out.block _ (heap_lt HO.out) (fun h => h)]; exact HO.out, by unfold Hid; rw [← HS2.out, HC7.out.block _ (heap_lt HT.out) (fun h => h)]; exact HT.out,
                by unfold Hid; rw [← HS1.out]; exact HP1.out.chg HC7.out (fun _ _ h => h), by unfold Hid; rw [← HS2.out]; exact HP2.out.chg HC7.out (fun _ _ h => h), HDJ,
                by unfold Hid; rw [← HS1.out]; have := HLA.out; have := HLX.out; exact ⟨by omega, by omega, by omega⟩, by unfold Hid; rw [← HS2.out]; have := HLB.out; have := HLX.out; exact ⟨by omega, by omega, by omega⟩, HC4.out.trans (HC7.out.mono fun _ h => h.elim)⟩
              case measure => simp [intOf]; omega
          · have hk : m.kd = 9 := by simpa using hx9
            have HPC : Hid (putC (ps2 ms t) m (accOf ms t) p 7) := HKO.out.1.2.2.1 hk
            have HKD : Hid (m.kd = 9) := hk
            clear hk
            have o0 : wr.cell? ⟨w.heap.size + 1, 0, none⟩ = some (.slice a1 n1 k1) := by rw [cell_of HO0.out]; rfl
            have o1' : wr.cell? ⟨w.heap.size + 1, 1, none⟩ = some (.int .i64 ((ps1 ms t).2 : Int)) := by rw [cell_of HO0.out]; rfl
            have p0 : wr.cell? ⟨w.heap.size + 2, 0, none⟩ = some (.slice a2 n2 k2) := by rw [cell_of HT0.out]; rfl
            have p1' : wr.cell? ⟨w.heap.size + 2, 1, none⟩ = some (.int .i64 ((ps2 ms t).2 : Int)) := by rw [cell_of HT0.out]; rfl
            have ol : w.heap.size + 1 < wr.heap.size := HOW0.out.1
            have tl : w.heap.size + 2 < wr.heap.size := HOW0.out.2
            go_wp2_with fail
            generalize wr.alloc (.cells #[.int .i64 (p : Int), .int .i64 m.kd, .int .i64 m.a, .bool true, .slice (some ⟨b1, o1, none⟩) N c1, .slice (some ⟨b2, o2, none⟩) N c2, .slice (some ⟨b3, o3, none⟩) N c3, .slice (some ⟨b4, o4, none⟩) N c4, .slice a5 m.pipe.length c5, .slice a6 m.pipe2.length c6] 56) = W2 at *
            have HC2 : Hid (Chg No wr W2) := C2
            have HMX : Hid (W2.heap[wr.heap.size]? = some (.cells #[.int .i64 (p : Int), .int .i64 m.kd, .int .i64 m.a, .bool true, .slice (some ⟨b1, o1, none⟩) N c1, .slice (some ⟨b2, o2, none⟩) N c2, .slice (some ⟨b3, o3, none⟩) N c3, .slice (some ⟨b4, o4, none⟩) N c4, .slice a5 m.pipe.length c5, .slice a6 m.pipe2.length c6] 56 (0, 0))) := hmb
            have HM2 : Hid (MV W2 N m g t b1 o1 c1 b2 o2 c2 b3 o3 c3 b4 o4 c4 a5 c5 a6 c6) := HMV.out.chg (HCW.out.trans C2)
            have HA2 : Hid (∀ j, j < N → W2.cell? ⟨ab, ao + j, none⟩ = some (.int .i64 (accOf ms t j))) := fun j hj => kch C2 (HR.out j hj)
            have HO2 : Hid (W2.heap[w.heap.size + 1]? = some (.cells #[.slice a1 n1 k1, .int .i64 ((ps1 ms t).2 : Int)] 65 (0, 0))) := by unfold Hid; rw [C2.block _ (heap_lt HO0.out) (fun h => h)]; exact HO0.out
            have HT2 : Hid (W2.heap[w.heap.size + 2]? = some (.cells #[.slice a2 n2 k2, .int .i64 ((ps2 ms t).2 : Int)] 65 (0, 0))) := by unfold Hid; rw [C2.block _ (heap_lt HT0.out) (fun h => h)]; exact HT0.out
            have HQ1 : Hid (PV Bs W2 (.slice a1 n1 k1) (ps1 ms t).1) := HQ01.out.chg C2 (fun _ _ h => h)
            have HQ2 : Hid (PV Bs W2 (.slice a2 n2 k2) (ps2 ms t).1) := HQ02.out.chg C2 (fun _ _ h => h)
            have HMBN : Hid ((¬ (Value.slice a1 n1 k1).ownBlock = some wr.heap.size) ∧ ¬ (Value.slice a2 n2 k2).ownBlock = some wr.heap.size) := ⟨fun h => by have := HQ01.out.lt h; omega, fun h => by have := HQ02.out.lt h; omega⟩
            have HMBL : Hid (Bs ≤ wr.heap.size) := by have := HBS.out; have := HC.out.size; unfold Hid; omega
            clear hmb C2 d0 d1 d2 d3 d4 d5 d6 d7 d8 d9 hgl hx2 hxl o0 o1' p0 p1' ol tl
            generalize wr.heap.size = mb at *
            refine (written_any W2 N hN m g t b1 o1 c1 b2 o2 c2 b3 o3 c3 b4 o4 c4 a5 c5 a6 c6 HM2 ab ao ac (accOf ms t) HA2 p hp Bs (by have := HBS.out; have := HC.out.size; have := HC2.out.size; omega) a2 k2 (ps2 ms t) n2 HN2.out.1 (by have := HN2.out; omega) HQ2 (by have := HN2.out; omega) 7 hab HB4 HPC).mono ?_
            rintro e w5 ⟨v', rfl, hP, hC, hown⟩
            obtain ⟨A', C', rfl⟩ := hP.shape
            have hle : (putP (ps2 ms t) (accOf ms t p)).1.length ≤ t + 1 ∧ (putP (ps2 ms t) (accOf ms t p)).2 ≤ (putP (ps2 ms t) (accOf ms t p)).1.length := putP_le _ ⟨HN2.out.2.1, HN2.out.2.2⟩
            have HSA : Hid (putP (ps2 ms t) (accOf ms t p) = ps2 ms (t + 1)) := by
              unfold Hid; rw [ps2_succ Hm.out, step2, if_pos HKD.out]
              rw [HPP.out]; simp
            have HSB : Hid (ps1 ms t = ps1 ms (t + 1)) := by
              unfold Hid; rw [ps1_succ Hm.out, step1, if_neg (by rw [HKD.out]; decide), if_neg (by rw [HKD.out]; decide)]
            generalize putP (ps2 ms t) (accOf ms t p) = SX at *
            have HLE : Hid (SX.1.length ≤ t + 1 ∧ SX.2 ≤ SX.1.length) := hle
            obtain ⟨lx, hlx⟩ : ∃ l, SX.1.length = l := ⟨_, rfl⟩
            have HLN : Hid (SX.1.length = lx ∧ lx ≤ 256 ∧ SX.2 ≤ lx) := ⟨hlx, by have := HLE.out; omega, by have := HLE.out; omega⟩
            have HLO : Hid ((ps1 ms t).1.length = n1 ∧ n1 ≤ 256 ∧ (ps1 ms t).2 ≤ n1) := by have := HN1.out; exact ⟨this.1, by omega, by omega⟩
            have HLX : Hid (lx ≤ t + 1 ∧ n1 ≤ t + 1) := by have := HN1.out; have := HLE.out; exact ⟨by omega, by omega⟩
            rw [hlx] at hP hown ⊢
            clear hle hlx
            have nb : ∀ b, b < Bs → ¬ (Value.slice a2 n2 k2).ownBlock = some b := fun b hb h => by have := HQ2.out.lt h; omega
            have hO5 : w5.heap[w.heap.size + 1]? = some (.cells #[.slice a1 n1 k1, .int .i64 ((ps1 ms t).2 : Int)] 65 (0, 0)) := by rw [hC.block _ (heap_lt HO2.out) (nb _ (by have := HBS.out; omega))]; exact HO2.out
            have hT5 : w5.heap[w.heap.size + 2]? = some (.cells #[.slice a2 n2 k2, .int .i64 ((ps2 ms t).2 : Int)] 65 (0, 0)) := by rw [hC.block _ (heap_lt HT2.out) (nb _ (by have := HBS.out; omega))]; exact HT2.out
            have hM5 : w5.heap[mb]? = some (.cells #[.int .i64 (p : Int), .int .i64 m.kd, .int .i64 m.a, .bool true, .slice (some ⟨b1, o1, none⟩) N c1, .slice (some ⟨b2, o2, none⟩) N c2, .slice (some ⟨b3, o3, none⟩) N c3, .slice (some ⟨b4, o4, none⟩) N c4, .slice a5 m.pipe.length c5, .slice a6 m.pipe2.length c6] 56 (0, 0)) := by rw [hC.block _ (heap_lt HMX.out) HMBN.out.2]; exact HMX.out
            have HP5 : Hid (PV Bs w5 (.slice A' lx C') SX.1) := hP
            have HPO : Hid (PV Bs w5 (.slice a1 n1 k1) (ps1 ms t).1) := HQ1.out.chg hC (fun g hg h => HDJ0.out g hg h)
            have HC5 : Hid (Chg (fun b => (Value.slice a2 n2 k2).ownBlock = some b) W2 w5) := hC
            have HOW : Hid (∀ g, (Value.slice A' lx C').ownBlock = some g → (Value.slice a2 n2 k2).ownBlock = some g ∨ W2.heap.size ≤ g) := hown
            have g0 : w5.cell? ⟨w.heap.size + 1, 0, none⟩ = some (.slice a1 n1 k1) := by rw [cell_of hO5]; rfl
            have g1 : w5.cell? ⟨w.heap.size + 1, 1, none⟩ = some (.int .i64 ((ps1 ms t).2 : Int)) := by rw [cell_of hO5]; rfl
            have g2 : w5.cell? ⟨w.heap.size + 2, 0, none⟩ = some (.slice a2 n2 k2) := by rw [cell_of hT5]; rfl
            have g3 : w5.cell? ⟨w.heap.size + 2, 1, none⟩ = some (.int .i64 ((ps2 ms t).2 : Int)) := by rw [cell_of hT5]; rfl
            have g8 : w5.cell? ⟨mb, 8, none⟩ = some (.slice a5 m.pipe.length c5) := by rw [cell_of hM5]; rfl
            have z50 : w5.frozen? ⟨w.heap.size + 2, 0, none⟩ = false := frozen_of hT5
            have z51 : w5.frozen? ⟨w.heap.size + 2, 1, none⟩ = false := frozen_of hT5
            have l50 : w.heap.size + 1 < w5.heap.size := heap_lt hO5
            have l51 : w.heap.size + 2 < w5.heap.size := heap_lt hT5
            have l52 : mb < w5.heap.size := heap_lt hM5
            have nmo : mb ≠ w.heap.size + 2 := by have := HMBL.out; have := HBS.out; omega
            have HO5 : Hid (w5.heap[w.heap.size + 1]? = some (.cells #[.slice a1 n1 k1, .int .i64 ((ps1 ms t).2 : Int)] 65 (0, 0))) := hO5
            have HT5 : Hid (w5.heap[w.heap.size + 2]? = some (.cells #[.slice a2 n2 k2, .int .i64 ((ps2 ms t).2 : Int)] 65 (0, 0))) := hT5
            have HM5 : Hid (w5.heap[mb]? = some (.cells #[.int .i64 (p : Int), .int .i64 m.kd, .int .i64 m.a, .bool true, .slice (some ⟨b1, o1, none⟩) N c1, .slice (some ⟨b2, o2, none⟩) N c2, .slice (some ⟨b3, o3, none⟩) N c3, .slice (some ⟨b4, o4, none⟩) N c4, .slice a5 m.pipe.length c5, .slice a6 m.pipe2.length c6] 56 (0, 0))) := hM5
            have HNB : Hid (∀ b, b < Bs → ¬ (Value.slice a2 n2 k2).ownBlock = some b) := nb
            clear hP hC hown hO5 hT5 hM5 nb
            go_wp2_with fail
            have hX4 : ((w5.setCell ⟨w.heap.size + 2, 0, none⟩ (.slice A' lx C')).setCell ⟨w.heap.size + 2, 1, none⟩ (.int .i64 (SX.2 : Int))).heap[w.heap.size + 2]? = some (.cells #[.slice A' lx C', .int .i64 (SX.2 : Int)] 65 (0, 0)) := by
              rw [heap_set_same (heap_set_same HT5.out)]; rfl
            have C54 : Chg (fun b => b = w.heap.size + 2) w5 ((w5.setCell ⟨w.heap.size + 2, 0, none⟩ (.slice A' lx C')).setCell ⟨w.heap.size + 2, 1, none⟩ (.int .i64 (SX.2 : Int))) := ((Chg.refl (fun b => b = w.heap.size + 2) _).setCell (p := ⟨w.heap.size + 2, 0, none⟩) (.inl rfl) _).setCell (p := ⟨w.heap.size + 2, 1, none⟩) (.inl rfl) _
            generalize (w5.setCell ⟨w.heap.size + 2, 0, none⟩ (.slice A' lx C')).setCell ⟨w.heap.size + 2, 1, none⟩ (.int .i64 (SX.2 : Int)) = W4 at *
            have HT : Hid (W4.heap[w.heap.size + 2]? = some (.cells #[.slice A' lx C', .int .i64 (SX.2 : Int)] 65 (0, 0))) := hX4
            have HO : Hid (W4.heap[w.heap.size + 1]? = some (.cells #[.slice a1 n1 k1, .int .i64 ((ps1 ms t).2 : Int)] 65 (0, 0))) := by unfold Hid; rw [C54.block _ (heap_lt HO5.out) (by omega)]; exact HO5.out
            have HM4 : Hid (W4.heap[mb]? = some (.cells #[.int .i64 (p : Int), .int .i64 m.kd, .int .i64 m.a, .bool true, .slice (some ⟨b1, o1, none⟩) N c1, .slice (some ⟨b2, o2, none⟩) N c2, .slice (some ⟨b3, o3, none⟩) N c3, .slice (some ⟨b4, o4, none⟩) N c4, .slice a5 m.pipe.length c5, .slice a6 m.pipe2.length c6] 56 (0, 0))) := by unfold Hid; rw [C54.block _ (heap_lt HM5.out) nmo]; exact HM5.out
            have HP2 : Hid (PV Bs W4 (.slice A' lx C') SX.1) := HP5.out.chg C54 (fun g hg e => by have := (HP5.out.lt hg).1; have := HBS.out; omega)
            have HP1 : Hid (PV Bs W4 (.slice a1 n1 k1) (ps1 ms t).1) := HPO.out.chg C54 (fun g hg e => by have := (HPO.out.lt hg).1; have := HBS.out; omega)
            have HDJ : Hid (∀ g, (Value.slice a1 n1 k1).ownBlock = some g → ¬ (Value.slice A' lx C').ownBlock = some g) := fun g h1 h2 => by
              rcases HOW.out g h2 with h | h
              · exact HDJ0.out g h1 h
              · have := (HQ1.out.lt h1).2; omega
            have HC4 : Hid (Chg (fun b => b = w.heap.size + 1 ∨ b = w.heap.size + 2 ∨ Bs ≤ b) W1 W4) := ((HC.out.trans (HC2.out.mono fun _ h => h.elim)).trans (HC5.out.mono fun b h => .inr (.inr (HQ2.out.lt h).1))).trans (C54.mono fun b h => .inr (.inl h))
            have HLA : Hid (_ ∧ _ ∧ _) := HLO
            have HLB : Hid (_ ∧ _ ∧ _) := HLN
            have HS1 := HSB
            have HS2 := HSA
            clear hX4 C54 g0 g1 g2 g3 g8 z50 z51 l50 l51 l52 nmo HSA HSB HLN HLO HO5 HT5 HM5 HP5 HPO
            have Q1 := drop_lf (HKO.out.2.1.trans (by rw [← HS1.out])) (show (ps1 ms t).2 ≤ (ps1 ms t).1.length by have := HLA.out; omega)
            have Q2 := drop_lf (HKO.out.2.2.trans (by rw [← HS2.out])) (show (SX).2 ≤ (SX).1.length by have := HLB.out; omega)
            have HQ1' : Hid (m.pipe.length = (ps1 ms t).1.length - (ps1 ms t).2 ∧ ∀ j, j < m.pipe.length → lf m.pipe j = lf (ps1 ms t).1 ((ps1 ms t).2 + j)) := Q1
            have HQ2' : Hid (m.pipe2.length = (SX).1.length - (SX).2 ∧ ∀ j, j < m.pipe2.length → lf m.pipe2 j = lf (SX).1 ((SX).2 + j)) := Q2
            clear Q1 Q2
            have HCN4 : Hid (Chg No w W4) := HC1.out.over HC4.out (fun b h => by have := HBS.out; rcases h with h | h | h <;> omega)
            refine (holds_any W4 a1 k1 (ps1 ms t).1 HP1.out.ints n1 HLA.out.1 HLA.out.2.1 (ps1 ms t).2 HLA.out.2.2 a5 c5 m.pipe (HMV.out.chg HCN4.out).pi m.pipe.length rfl (by have := HQ1'.out.1; rw [HLA.out.1] at this; exact this) HQ1'.out.2).mono ?_
            rintro e W6 ⟨rfl, C6⟩
            have HC6 : Hid (Chg No W4 W6) := C6
            have u0 : W6.cell? ⟨w.heap.size + 2, 0, none⟩ = some (.slice A' lx C') := by rw [C6.cell (p := ⟨w.heap.size + 2, 0, none⟩) (heap_lt HT.out) (fun h => h), cell_of HT.out]; rfl
            have u1 : W6.cell? ⟨w.heap.size + 2, 1, none⟩ = some (.int .i64 ((SX).2 : Int)) := by rw [C6.cell (p := ⟨w.heap.size + 2, 1, none⟩) (heap_lt HT.out) (fun h => h), cell_of HT.out]; rfl
            have u8 : W6.cell? ⟨mb, 9, none⟩ = some (.slice a6 m.pipe2.length c6) := by rw [C6.cell (p := ⟨mb, 9, none⟩) (heap_lt HM4.out) (fun h => h), cell_of HM4.out]; rfl
            have ml6 : mb < W6.heap.size := Nat.lt_of_lt_of_le (heap_lt HM4.out) C6.size
            have tl6 : w.heap.size + 2 < W6.heap.size := Nat.lt_of_lt_of_le (heap_lt HT.out) C6.size
            clear C6
            go_wp2_with fail
            refine (holds_any W6 A' C' (SX).1 (HP2.out.chg HC6.out (fun _ _ h => h)).ints lx HLB.out.1 HLB.out.2.1 (SX).2 HLB.out.2.2 a6 c6 m.pipe2 (HMV.out.chg (HCN4.out.trans HC6.out)).pj m.pipe2.length rfl (by have := HQ2'.out.1; rw [HLB.out.1] at this; exact this) HQ2'.out.2).mono ?_
            rintro e W7 ⟨rfl, C7⟩
            have HC7 : Hid (Chg No W4 W7) := HC6.out.trans C7
            have z7 : W7.cell? ⟨mb, 7, none⟩ = some (.slice (some ⟨b4, o4, none⟩) N c4) := by rw [HC7.out.cell (p := ⟨mb, 7, none⟩) (heap_lt HM4.out) (fun h => h), cell_of HM4.out]; rfl
            have ml7 : mb < W7.heap.size := Nat.lt_of_lt_of_le ml6 C7.size
            clear C7 u0 u1 u8 ml6 tl6
            go_wp2_with fail
            go_roundw
            case rel => exact ⟨t + 1, b4, o4, c4, a1, n1, k1, A', lx, C', by omega, by go_num, rfl, HB4.out.2, fun j hj => by rw [accOf_succ Hm.out]; exact (HMV.out.chg (HCN4.out.trans HC7.out)).acc j hj,
              by unfold Hid; rw [← HS1.out, HC7.out.block _ (heap_lt HO.out) (fun h => h)]; exact HO.out, by unfold Hid; rw [← HS2.out, HC7.out.block _ (heap_lt HT.out) (fun h => h)]; exact HT.out,
              by unfold Hid; rw [← HS1.out]; exact HP1.out.chg HC7.out (fun _ _ h => h), by unfold Hid; rw [← HS2.out]; exact HP2.out.chg HC7.out (fun _ _ h => h), HDJ,
              by unfold Hid; rw [← HS1.out]; have := HLA.out; have := HLX.out; exact ⟨by omega, by omega, by omega⟩, by unfold Hid; rw [← HS2.out]; have := HLB.out; have := HLX.out; exact ⟨by omega, by omega, by omega⟩, HC4.out.trans (HC7.out.mono fun _ h => h.elim)⟩
            case measure => simp [intOf]; omega
        · have hk : m.kd = 5 := by simpa using hx5
          have HPC : Hid (takeC (ps1 ms t) m (accOf ms t) p 6) := HKO.out.1.2.1 hk
          have HKD : Hid (m.kd = 5) := hk
          clear hk
          have o0 : wr.cell? ⟨w.heap.size + 1, 0, none⟩ = some (.slice a1 n1 k1) := by rw [cell_of HO0.out]; rfl
          have o1' : wr.cell? ⟨w.heap.size + 1, 1, none⟩ = some (.int .i64 ((ps1 ms t).2 : Int)) := by rw [cell_of HO0.out]; rfl
          have p0 : wr.cell? ⟨w.heap.size + 2, 0, none⟩ = some (.slice a2 n2 k2) := by rw [cell_of HT0.out]; rfl
          have p1' : wr.cell? ⟨w.heap.size + 2, 1, none⟩ = some (.int .i64 ((ps2 ms t).2 : Int)) := by rw [cell_of HT0.out]; rfl
          have ol : w.heap.size + 1 < wr.heap.size := HOW0.out.1
          have tl : w.heap.size + 2 < wr.heap.size := HOW0.out.2
          go_wp2_with fail
          generalize wr.alloc (.cells #[.int .i64 (p : Int), .int .i64 m.kd, .int .i64 m.a, .bool true, .slice (some ⟨b1, o1, none⟩) N c1, .slice (some ⟨b2, o2, none⟩) N c2, .slice (some ⟨b3, o3, none⟩) N c3, .slice (some ⟨b4, o4, none⟩) N c4, .slice a5 m.pipe.length c5, .slice a6 m.pipe2.length c6] 56) = W2 at *
          have HC2 : Hid (Chg No wr W2) := C2
          have HMX : Hid (W2.heap[wr.heap.size]? = some (.cells #[.int .i64 (p : Int), .int .i64 m.kd, .int .i64 m.a, .bool true, .slice (some ⟨b1, o1, none⟩) N c1, .slice (some ⟨b2, o2, none⟩) N c2, .slice (some ⟨b3, o3, none⟩) N c3, .slice (some ⟨b4, o4, none⟩) N c4, .slice a5 m.pipe.length c5, .slice a6 m.pipe2.length c6] 56 (0, 0))) := hmb
          have HM2 : Hid (MV W2 N m g t b1 o1 c1 b2 o2 c2 b3 o3 c3 b4 o4 c4 a5 c5 a6 c6) := HMV.out.chg (HCW.out.trans C2)
          have HA2 : Hid (∀ j, j < N → W2.cell? ⟨ab, ao + j, none⟩ = some (.int .i64 (accOf ms t j))) := fun j hj => kch C2 (HR.out j hj)
          have HO2 : Hid (W2.heap[w.heap.size + 1]? = some (.cells #[.slice a1 n1 k1, .int .i64 ((ps1 ms t).2 : Int)] 65 (0, 0))) := by unfold Hid; rw [C2.block _ (heap_lt HO0.out) (fun h => h)]; exact HO0.out
          have HT2 : Hid (W2.heap[w.heap.size + 2]? = some (.cells #[.slice a2 n2 k2, .int .i64 ((ps2 ms t).2 : Int)] 65 (0, 0))) := by unfold Hid; rw [C2.block _ (heap_lt HT0.out) (fun h => h)]; exact HT0.out
          have HQ1 : Hid (PV Bs W2 (.slice a1 n1 k1) (ps1 ms t).1) := HQ01.out.chg C2 (fun _ _ h => h)
          have HQ2 : Hid (PV Bs W2 (.slice a2 n2 k2) (ps2 ms t).1) := HQ02.out.chg C2 (fun _ _ h => h)
          have HMBN : Hid ((¬ (Value.slice a1 n1 k1).ownBlock = some wr.heap.size) ∧ ¬ (Value.slice a2 n2 k2).ownBlock = some wr.heap.size) := ⟨fun h => by have := HQ01.out.lt h; omega, fun h => by have := HQ02.out.lt h; omega⟩
          have HMBL : Hid (Bs ≤ wr.heap.size) := by have := HBS.out; have := HC.out.size; unfold Hid; omega
          clear hmb C2 d0 d1 d2 d3 d4 d5 d6 d7 d8 d9 hgl hx2 hxl o0 o1' p0 p1' ol tl
          generalize wr.heap.size = mb at *
          refine (taken_any W2 N hN m g t b1 o1 c1 b2 o2 c2 b3 o3 c3 b4 o4 c4 a5 c5 a6 c6 HM2 ab ao ac (accOf ms t) HA2 p hp Bs (by have := HBS.out; have := HC.out.size; have := HC2.out.size; omega) a1 k1 (ps1 ms t) n1 HN1.out.1 (by have := HN1.out; omega) HQ1 (by have := HN1.out; omega) 6 hab HB4 HPC).mono ?_
          rintro e w5 ⟨v', rfl, hP, hC, hown⟩
          obtain ⟨A', C', rfl⟩ := hP.shape
          have hle : (takeP (ps1 ms t)).1.length ≤ t + 1 ∧ (takeP (ps1 ms t)).2 ≤ (takeP (ps1 ms t)).1.length := takeP_le ⟨HN1.out.2.1, HN1.out.2.2⟩
          have HSA : Hid (takeP (ps1 ms t) = ps1 ms (t + 1)) := by
            unfold Hid; rw [ps1_succ Hm.out, step1, if_neg (by rw [HKD.out]; decide), if_pos HKD.out]
            skip
          have HSB : Hid (ps2 ms t = ps2 ms (t + 1)) := by
            unfold Hid; rw [ps2_succ Hm.out, step2, if_neg (by rw [HKD.out]; decide), if_neg (by rw [HKD.out]; decide)]
          generalize takeP (ps1 ms t) = SX at *
          have HLE : Hid (SX.1.length ≤ t + 1 ∧ SX.2 ≤ SX.1.length) := hle
          obtain ⟨lx, hlx⟩ : ∃ l, SX.1.length = l := ⟨_, rfl⟩
          have HLN : Hid (SX.1.length = lx ∧ lx ≤ 256 ∧ SX.2 ≤ lx) := ⟨hlx, by have := HLE.out; omega, by have := HLE.out; omega⟩
          have HLO : Hid ((ps2 ms t).1.length = n2 ∧ n2 ≤ 256 ∧ (ps2 ms t).2 ≤ n2) := by have := HN2.out; exact ⟨this.1, by omega, by omega⟩
          have HLX : Hid (lx ≤ t + 1 ∧ n2 ≤ t + 1) := by have := HN2.out; have := HLE.out; exact ⟨by omega, by omega⟩
          rw [hlx] at hP hown ⊢
          clear hle hlx
          have nb : ∀ b, b < Bs → ¬ (Value.slice a1 n1 k1).ownBlock = some b := fun b hb h => by have := HQ1.out.lt h; omega
          have hO5 : w5.heap[w.heap.size + 1]? = some (.cells #[.slice a1 n1 k1, .int .i64 ((ps1 ms t).2 : Int)] 65 (0, 0)) := by rw [hC.block _ (heap_lt HO2.out) (nb _ (by have := HBS.out; omega))]; exact HO2.out
          have hT5 : w5.heap[w.heap.size + 2]? = some (.cells #[.slice a2 n2 k2, .int .i64 ((ps2 ms t).2 : Int)] 65 (0, 0)) := by rw [hC.block _ (heap_lt HT2.out) (nb _ (by have := HBS.out; omega))]; exact HT2.out
          have hM5 : w5.heap[mb]? = some (.cells #[.int .i64 (p : Int), .int .i64 m.kd, .int .i64 m.a, .bool true, .slice (some ⟨b1, o1, none⟩) N c1, .slice (some ⟨b2, o2, none⟩) N c2, .slice (some ⟨b3, o3, none⟩) N c3, .slice (some ⟨b4, o4, none⟩) N c4, .slice a5 m.pipe.length c5, .slice a6 m.pipe2.length c6] 56 (0, 0)) := by rw [hC.block _ (heap_lt HMX.out) HMBN.out.1]; exact HMX.out
          have HP5 : Hid (PV Bs w5 (.slice A' lx C') SX.1) := hP
          have HPO : Hid (PV Bs w5 (.slice a2 n2 k2) (ps2 ms t).1) := HQ2.out.chg hC (fun g hg h => HDJ0.out g h hg)
          have HC5 : Hid (Chg (fun b => (Value.slice a1 n1 k1).ownBlock = some b) W2 w5) := hC
          have HOW : Hid (∀ g, (Value.slice A' lx C').ownBlock = some g → (Value.slice a1 n1 k1).ownBlock = some g ∨ W2.heap.size ≤ g) := hown
          have g0 : w5.cell? ⟨w.heap.size + 1, 0, none⟩ = some (.slice a1 n1 k1) := by rw [cell_of hO5]; rfl
          have g1 : w5.cell? ⟨w.heap.size + 1, 1, none⟩ = some (.int .i64 ((ps1 ms t).2 : Int)) := by rw [cell_of hO5]; rfl
          have g2 : w5.cell? ⟨w.heap.size + 2, 0, none⟩ = some (.slice a2 n2 k2) := by rw [cell_of hT5]; rfl
          have g3 : w5.cell? ⟨w.heap.size + 2, 1, none⟩ = some (.int .i64 ((ps2 ms t).2 : Int)) := by rw [cell_of hT5]; rfl
          have g8 : w5.cell? ⟨mb, 8, none⟩ = some (.slice a5 m.pipe.length c5) := by rw [cell_of hM5]; rfl
          have z50 : w5.frozen? ⟨w.heap.size + 1, 0, none⟩ = false := frozen_of hO5
          have z51 : w5.frozen? ⟨w.heap.size + 1, 1, none⟩ = false := frozen_of hO5
          have l50 : w.heap.size + 1 < w5.heap.size := heap_lt hO5
          have l51 : w.heap.size + 2 < w5.heap.size := heap_lt hT5
          have l52 : mb < w5.heap.size := heap_lt hM5
          have nmo : mb ≠ w.heap.size + 1 := by have := HMBL.out; have := HBS.out; omega
          have HO5 : Hid (w5.heap[w.heap.size + 1]? = some (.cells #[.slice a1 n1 k1, .int .i64 ((ps1 ms t).2 : Int)] 65 (0, 0))) := hO5
          have HT5 : Hid (w5.heap[w.heap.size + 2]? = some (.cells #[.slice a2 n2 k2, .int .i64 ((ps2 ms t).2 : Int)] 65 (0, 0))) := hT5
          have HM5 : Hid (w5.heap[mb]? = some (.cells #[.int .i64 (p : Int), .int .i64 m.kd, .int .i64 m.a, .bool true, .slice (some ⟨b1, o1, none⟩) N c1, .slice (some ⟨b2, o2, none⟩) N c2, .slice (some ⟨b3, o3, none⟩) N c3, .slice (some ⟨b4, o4, none⟩) N c4, .slice a5 m.pipe.length c5, .slice a6 m.pipe2.length c6] 56 (0, 0))) := hM5
          have HNB : Hid (∀ b, b < Bs → ¬ (Value.slice a1 n1 k1).ownBlock = some b) := nb
          clear hP hC hown hO5 hT5 hM5 nb
          go_wp2_with fail
          have hX4 : ((w5.setCell ⟨w.heap.size + 1, 0, none⟩ (.slice A' lx C')).setCell ⟨w.heap.size + 1, 1, none⟩ (.int .i64 (SX.2 : Int))).heap[w.heap.size + 1]? = some (.cells #[.slice A' lx C', .int .i64 (SX.2 : Int)] 65 (0, 0)) := by
            rw [heap_set_same (heap_set_same HO5.out)]; rfl
          have C54 : Chg (fun b => b = w.heap.size + 1) w5 ((w5.setCell ⟨w.heap.size + 1, 0, none⟩ (.slice A' lx C')).setCell ⟨w.heap.size + 1, 1, none⟩ (.int .i64 (SX.2 : Int))) := ((Chg.refl (fun b => b = w.heap.size + 1) _).setCell (p := ⟨w.heap.size + 1, 0, none⟩) (.inl rfl) _).setCell (p := ⟨w.heap.size + 1, 1, none⟩) (.inl rfl) _
          generalize (w5.setCell ⟨w.heap.size + 1, 0, none⟩ (.slice A' lx C')).setCell ⟨w.heap.size + 1, 1, none⟩ (.int .i64 (SX.2 : Int)) = W4 at *
          have HO : Hid (W4.heap[w.heap.size + 1]? = some (.cells #[.slice A' lx C', .int .i64 (SX.2 : Int)] 65 (0, 0))) := hX4
          have HT : Hid (W4.heap[w.heap.size + 2]? = some (.cells #[.slice a2 n2 k2, .int .i64 ((ps2 ms t).2 : Int)] 65 (0, 0))) := by unfold Hid; rw [C54.block _ (heap_lt HT5.out) (by omega)]; exact HT5.out
          have HM4 : Hid (W4.heap[mb]? = some (.cells #[.int .i64 (p : Int), .int .i64 m.kd, .int .i64 m.a, .bool true, .slice (some ⟨b1, o1, none⟩) N c1, .slice (some ⟨b2, o2, none⟩) N c2, .slice (some ⟨b3, o3, none⟩) N c3, .slice (some ⟨b4, o4, none⟩) N c4, .slice a5 m.pipe.length c5, .slice a6 m.pipe2.length c6] 56 (0, 0))) := by unfold Hid; rw [C54.block _ (heap_lt HM5.out) nmo]; exact HM5.out
          have HP1 : Hid (PV Bs W4 (.slice A' lx C') SX.1) := HP5.out.chg C54 (fun g hg e => by have := (HP5.out.lt hg).1; have := HBS.out; omega)
          have HP2 : Hid (PV Bs W4 (.slice a2 n2 k2) (ps2 ms t).1) := HPO.out.chg C54 (fun g hg e => by have := (HPO.out.lt hg).1; have := HBS.out; omega)
          have HDJ : Hid (∀ g, (Value.slice A' lx C').ownBlock = some g → ¬ (Value.slice a2 n2 k2).ownBlock = some g) := fun g h1 h2 => by
            rcases HOW.out g h1 with h | h
            · exact HDJ0.out g h h2
            · have := (HQ2.out.lt h2).2; omega
          have HC4 : Hid (Chg (fun b => b = w.heap.size + 1 ∨ b = w.heap.size + 2 ∨ Bs ≤ b) W1 W4) := ((HC.out.trans (HC2.out.mono fun _ h => h.elim)).trans (HC5.out.mono fun b h => .inr (.inr (HQ1.out.lt h).1))).trans (C54.mono fun b h => .inl h)
          have HLA : Hid (_ ∧ _ ∧ _) := HLN
          have HLB : Hid (_ ∧ _ ∧ _) := HLO
          have HS1 := HSA
          have HS2 := HSB
          clear hX4 C54 g0 g1 g2 g3 g8 z50 z51 l50 l51 l52 nmo HSA HSB HLN HLO HO5 HT5 HM5 HP5 HPO
          have Q1 := drop_lf (HKO.out.2.1.trans (by rw [← HS1.out])) (show (SX).2 ≤ (SX).1.length by have := HLA.out; omega)
          have Q2 := drop_lf (HKO.out.2.2.trans (by rw [← HS2.out])) (show (ps2 ms t).2 ≤ (ps2 ms t).1.length by have := HLB.out; omega)
          have HQ1' : Hid (m.pipe.length = (SX).1.length - (SX).2 ∧ ∀ j, j < m.pipe.length → lf m.pipe j = lf (SX).1 ((SX).2 + j)) := Q1
          have HQ2' : Hid (m.pipe2.length = (ps2 ms t).1.length - (ps2 ms t).2 ∧ ∀ j, j < m.pipe2.length → lf m.pipe2 j = lf (ps2 ms t).1 ((ps2 ms t).2 + j)) := Q2
          clear Q1 Q2
          have HCN4 : Hid (Chg No w W4) := HC1.out.over HC4.out (fun b h => by have := HBS.out; rcases h with h | h | h <;> omega)
          refine (holds_any W4 A' C' (SX).1 HP1.out.ints lx HLA.out.1 HLA.out.2.1 (SX).2 HLA.out.2.2 a5 c5 m.pipe (HMV.out.chg HCN4.out).pi m.pipe.length rfl (by have := HQ1'.out.1; rw [HLA.out.1] at this; exact this) HQ1'.out.2).mono ?_
          rintro e W6 ⟨rfl, C6⟩
          have HC6 : Hid (Chg No W4 W6) := C6
          have u0 : W6.cell? ⟨w.heap.size + 2, 0, none⟩ = some (.slice a2 n2 k2) := by rw [C6.cell (p := ⟨w.heap.size + 2, 0, none⟩) (heap_lt HT.out) (fun h => h), cell_of HT.out]; rfl
          have u1 : W6.cell? ⟨w.heap.size + 2, 1, none⟩ = some (.int .i64 ((ps2 ms t).2 : Int)) := by rw [C6.cell (p := ⟨w.heap.size + 2, 1, none⟩) (heap_lt HT.out) (fun h => h), cell_of HT.out]; rfl
          have u8 : W6.cell? ⟨mb, 9, none⟩ = some (.slice a6 m.pipe2.length c6) := by rw [C6.cell (p := ⟨mb, 9, none⟩) (heap_lt HM4.out) (fun h => h), cell_of HM4.out]; rfl
          have ml6 : mb < W6.heap.size := Nat.lt_of_lt_of_le (heap_lt HM4.out) C6.size
          have tl6 : w.heap.size + 2 < W6.heap.size := Nat.lt_of_lt_of_le (heap_lt HT.out) C6.size
          clear C6
          go_wp2_with fail
          refine (holds_any W6 a2 k2 (ps2 ms t).1 (HP2.out.chg HC6.out (fun _ _ h => h)).ints n2 HLB.out.1 HLB.out.2.1 (ps2 ms t).2 HLB.out.2.2 a6 c6 m.pipe2 (HMV.out.chg (HCN4.out.trans HC6.out)).pj m.pipe2.length rfl (by have := HQ2'.out.1; rw [HLB.out.1] at this; exact this) HQ2'.out.2).mono ?_
          rintro e W7 ⟨rfl, C7⟩
          have HC7 : Hid (Chg No W4 W7) := HC6.out.trans C7
          have z7 : W7.cell? ⟨mb, 7, none⟩ = some (.slice (some ⟨b4, o4, none⟩) N c4) := by rw [HC7.out.cell (p := ⟨mb, 7, none⟩) (heap_lt HM4.out) (fun h => h), cell_of HM4.out]; rfl
          have ml7 : mb < W7.heap.size := Nat.lt_of_lt_of_le ml6 C7.size
          clear C7 u0 u1 u8 ml6 tl6
          go_wp2_with fail
          go_roundw
          case rel => exact ⟨t + 1, b4, o4, c4, A', lx, C', a2, n2, k2, by omega, by go_num, rfl, HB4.out.2, fun j hj => by rw [accOf_succ Hm.out]; exact (HMV.out.chg (HCN4.out.trans HC7.out)).acc j hj,
            by unfold Hid; rw [← HS1.out, HC7.out.block _ (heap_lt HO.out) (fun h => h)]; exact HO.out, by unfold Hid; rw [← HS2.out, HC7.out.block _ (heap_lt HT.out) (fun h => h)]; exact HT.out,
            by unfold Hid; rw [← HS1.out]; exact HP1.out.chg HC7.out (fun _ _ h => h), by unfold Hid; rw [← HS2.out]; exact HP2.out.chg HC7.out (fun _ _ h => h), HDJ,
            by unfold Hid; rw [← HS1.out]; have := HLA.out; have := HLX.out; exact ⟨by omega, by omega, by omega⟩, by unfold Hid; rw [← HS2.out]; have := HLB.out; have := HLX.out; exact ⟨by omega, by omega, by omega⟩, HC4.out.trans (HC7.out.mono fun _ h => h.elim)⟩
          case measure => simp [intOf]; omega
      · have hk : m.kd = 4 := by simpa using hx4
        have HPC : Hid (putC (ps1 ms t) m (accOf ms t) p 5) := HKO.out.1.1 hk
        have HKD : Hid (m.kd = 4) := hk
        clear hk
        have o0 : wr.cell? ⟨w.heap.size + 1, 0, none⟩ = some (.slice a1 n1 k1) := by rw [cell_of HO0.out]; rfl
        have o1' : wr.cell? ⟨w.heap.size + 1, 1, none⟩ = some (.int .i64 ((ps1 ms t).2 : Int)) := by rw [cell_of HO0.out]; rfl
        have p0 : wr.cell? ⟨w.heap.size + 2, 0, none⟩ = some (.slice a2 n2 k2) := by rw [cell_of HT0.out]; rfl
        have p1' : wr.cell? ⟨w.heap.size + 2, 1, none⟩ = some (.int .i64 ((ps2 ms t).2 : Int)) := by rw [cell_of HT0.out]; rfl
        have ol : w.heap.size + 1 < wr.heap.size := HOW0.out.1
        have tl : w.heap.size + 2 < wr.heap.size := HOW0.out.2
        go_wp2_with fail
        generalize wr.alloc (.cells #[.int .i64 (p : Int), .int .i64 m.kd, .int .i64 m.a, .bool true, .slice (some ⟨b1, o1, none⟩) N c1, .slice (some ⟨b2, o2, none⟩) N c2, .slice (some ⟨b3, o3, none⟩) N c3, .slice (some ⟨b4, o4, none⟩) N c4, .slice a5 m.pipe.length c5, .slice a6 m.pipe2.length c6] 56) = W2 at *
        have HC2 : Hid (Chg No wr W2) := C2
        have HMX : Hid (W2.heap[wr.heap.size]? = some (.cells #[.int .i64 (p : Int), .int .i64 m.kd, .int .i64 m.a, .bool true, .slice (some ⟨b1, o1, none⟩) N c1, .slice (some ⟨b2, o2, none⟩) N c2, .slice (some ⟨b3, o3, none⟩) N c3, .slice (some ⟨b4, o4, none⟩) N c4, .slice a5 m.pipe.length c5, .slice a6 m.pipe2.length c6] 56 (0, 0))) := hmb
        have HM2 : Hid (MV W2 N m g t b1 o1 c1 b2 o2 c2 b3 o3 c3 b4 o4 c4 a5 c5 a6 c6) := HMV.out.chg (HCW.out.trans C2)
        have HA2 : Hid (∀ j, j < N → W2.cell? ⟨ab, ao + j, none⟩ = some (.int .i64 (accOf ms t j))) := fun j hj => kch C2 (HR.out j hj)
        have HO2 : Hid (W2.heap[w.heap.size + 1]? = some (.cells #[.slice a1 n1 k1, .int .i64 ((ps1 ms t).2 : Int)] 65 (0, 0))) := by unfold Hid; rw [C2.block _ (heap_lt HO0.out) (fun h => h)]; exact HO0.out
        have HT2 : Hid (W2.heap[w.heap.size + 2]? = some (.cells #[.slice a2 n2 k2, .int .i64 ((ps2 ms t).2 : Int)] 65 (0, 0))) := by unfold Hid; rw [C2.block _ (heap_lt HT0.out) (fun h => h)]; exact HT0.out
        have HQ1 : Hid (PV Bs W2 (.slice a1 n1 k1) (ps1 ms t).1) := HQ01.out.chg C2 (fun _ _ h => h)
        have HQ2 : Hid (PV Bs W2 (.slice a2 n2 k2) (ps2 ms t).1) := HQ02.out.chg C2 (fun _ _ h => h)
        have HMBN : Hid ((¬ (Value.slice a1 n1 k1).ownBlock = some wr.heap.size) ∧ ¬ (Value.slice a2 n2 k2).ownBlock = some wr.heap.size) := ⟨fun h => by have := HQ01.out.lt h; omega, fun h => by have := HQ02.out.lt h; omega⟩
        have HMBL : Hid (Bs ≤ wr.heap.size) := by have := HBS.out; have := HC.out.size; unfold Hid; omega
        clear hmb C2 d0 d1 d2 d3 d4 d5 d6 d7 d8 d9 hgl hx2 hxl o0 o1' p0 p1' ol tl
        generalize wr.heap.size = mb at *
        refine (written_any W2 N hN m g t b1 o1 c1 b2 o2 c2 b3 o3 c3 b4 o4 c4 a5 c5 a6 c6 HM2 ab ao ac (accOf ms t) HA2 p hp Bs (by have := HBS.out; have := HC.out.size; have := HC2.out.size; omega) a1 k1 (ps1 ms t) n1 HN1.out.1 (by have := HN1.out; omega) HQ1 (by have := HN1.out; omega) 5 hab HB4 HPC).mono ?_
        rintro e w5 ⟨v', rfl, hP, hC, hown⟩
        obtain ⟨A', C', rfl⟩ := hP.shape
        have hle : (putP (ps1 ms t) (accOf ms t p)).1.length ≤ t + 1 ∧ (putP (ps1 ms t) (accOf ms t p)).2 ≤ (putP (ps1 ms t) (accOf ms t p)).1.length := putP_le _ ⟨HN1.out.2.1, HN1.out.2.2⟩
        have HSA : Hid (putP (ps1 ms t) (accOf ms t p) = ps1 ms (t + 1)) := by
          unfold Hid; rw [ps1_succ Hm.out, step1, if_pos HKD.out]
          rw [HPP.out]; simp
        have HSB : Hid (ps2 ms t = ps2 ms (t + 1)) := by
          unfold Hid; rw [ps2_succ Hm.out, step2, if_neg (by rw [HKD.out]; decide), if_neg (by rw [HKD.out]; decide)]
        generalize putP (ps1 ms t) (accOf ms t p) = SX at *
        have HLE : Hid (SX.1.length ≤ t + 1 ∧ SX.2 ≤ SX.1.length) := hle
        obtain ⟨lx, hlx⟩ : ∃ l, SX.1.length = l := ⟨_, rfl⟩
        have HLN : Hid (SX.1.length = lx ∧ lx ≤ 256 ∧ SX.2 ≤ lx) := ⟨hlx, by have := HLE.out; omega, by have := HLE.out; omega⟩
        have HLO : Hid ((ps2 ms t).1.length = n2 ∧ n2 ≤ 256 ∧ (ps2 ms t).2 ≤ n2) := by have := HN2.out; exact ⟨this.1, by omega, by omega⟩
        have HLX : Hid (lx ≤ t + 1 ∧ n2 ≤ t + 1) := by have := HN2.out; have := HLE.out; exact ⟨by omega, by omega⟩
        rw [hlx] at hP hown ⊢
        clear hle hlx
        have nb : ∀ b, b < Bs → ¬ (Value.slice a1 n1 k1).ownBlock = some b := fun b hb h => by have := HQ1.out.lt h; omega
        have hO5 : w5.heap[w.heap.size + 1]? = some (.cells #[.slice a1 n1 k1, .int .i64 ((ps1 ms t).2 : Int)] 65 (0, 0)) := by rw [hC.block _ (heap_lt HO2.out) (nb _ (by have := HBS.out; omega))]; exact HO2.out
        have hT5 : w5.heap[w.heap.size + 2]? = some (.cells #[.slice a2 n2 k2, .int .i64 ((ps2 ms t).2 : Int)] 65 (0, 0)) := by rw [hC.block _ (heap_lt HT2.out) (nb _ (by have := HBS.out; omega))]; exact HT2.out
        have hM5 : w5.heap[mb]? = some (.cells #[.int .i64 (p : Int), .int .i64 m.kd, .int .i64 m.a, .bool true, .slice (some ⟨b1, o1, none⟩) N c1, .slice (some ⟨b2, o2, none⟩) N c2, .slice (some ⟨b3, o3, none⟩) N c3, .slice (some ⟨b4, o4, none⟩) N c4, .slice a5 m.pipe.length c5, .slice a6 m.pipe2.length c6] 56 (0, 0)) := by rw [hC.block _ (heap_lt HMX.out) HMBN.out.1]; exact HMX.out
        have HP5 : Hid (PV Bs w5 (.slice A' lx C') SX.1) := hP
        have HPO : Hid (PV Bs w5 (.slice a2 n2 k2) (ps2 ms t).1) := HQ2.out.chg hC (fun g hg h => HDJ0.out g h hg)
        have HC5 : Hid (Chg (fun b => (Value.slice a1 n1 k1).ownBlock = some b) W2 w5) := hC
        have HOW : Hid (∀ g, (Value.slice A' lx C').ownBlock = some g → (Value.slice a1 n1 k1).ownBlock = some g ∨ W2.heap.size ≤ g) := hown
        have g0 : w5.cell? ⟨w.heap.size + 1, 0, none⟩ = some (.slice a1 n1 k1) := by rw [cell_of hO5]; rfl
        have g1 : w5.cell? ⟨w.heap.size + 1, 1, none⟩ = some (.int .i64 ((ps1 ms t).2 : Int)) := by rw [cell_of hO5]; rfl
        have g2 : w5.cell? ⟨w.heap.size + 2, 0, none⟩ = some (.slice a2 n2 k2) := by rw [cell_of hT5]; rfl
        have g3 : w5.cell? ⟨w.heap.size + 2, 1, none⟩ = some (.int .i64 ((ps2 ms t).2 : Int)) := by rw [cell_of hT5]; rfl
        have g8 : w5.cell? ⟨mb, 8, none⟩ = some (.slice a5 m.pipe.length c5) := by rw [cell_of hM5]; rfl
        have z50 : w5.frozen? ⟨w.heap.size + 1, 0, none⟩ = false := frozen_of hO5
        have z51 : w5.frozen? ⟨w.heap.size + 1, 1, none⟩ = false := frozen_of hO5
        have l50 : w.heap.size + 1 < w5.heap.size := heap_lt hO5
        have l51 : w.heap.size + 2 < w5.heap.size := heap_lt hT5
        have l52 : mb < w5.heap.size := heap_lt hM5
        have nmo : mb ≠ w.heap.size + 1 := by have := HMBL.out; have := HBS.out; omega
        have HO5 : Hid (w5.heap[w.heap.size + 1]? = some (.cells #[.slice a1 n1 k1, .int .i64 ((ps1 ms t).2 : Int)] 65 (0, 0))) := hO5
        have HT5 : Hid (w5.heap[w.heap.size + 2]? = some (.cells #[.slice a2 n2 k2, .int .i64 ((ps2 ms t).2 : Int)] 65 (0, 0))) := hT5
        have HM5 : Hid (w5.heap[mb]? = some (.cells #[.int .i64 (p : Int), .int .i64 m.kd, .int .i64 m.a, .bool true, .slice (some ⟨b1, o1, none⟩) N c1, .slice (some ⟨b2, o2, none⟩) N c2, .slice (some ⟨b3, o3, none⟩) N c3, .slice (some ⟨b4, o4, none⟩) N c4, .slice a5 m.pipe.length c5, .slice a6 m.pipe2.length c6] 56 (0, 0))) := hM5
        have HNB : Hid (∀ b, b < Bs → ¬ (Value.slice a1 n1 k1).ownBlock = some b) := nb
        clear hP hC hown hO5 hT5 hM5 nb
        go_wp2_with fail
        have hX4 : ((w5.setCell ⟨w.heap.size + 1, 0, none⟩ (.slice A' lx C')).setCell ⟨w.heap.size + 1, 1, none⟩ (.int .i64 (SX.2 : Int))).heap[w.heap.size + 1]? = some (.cells #[.slice A' lx C', .int .i64 (SX.2 : Int)] 65 (0, 0)) := by
          rw [heap_set_same (heap_set_same HO5.out)]; rfl
        have C54 : Chg (fun b => b = w.heap.size + 1) w5 ((w5.setCell ⟨w.heap.size + 1, 0, none⟩ (.slice A' lx C')).setCell ⟨w.heap.size + 1, 1, none⟩ (.int .i64 (SX.2 : Int))) := ((Chg.refl (fun b => b = w.heap.size + 1) _).setCell (p := ⟨w.heap.size + 1, 0, none⟩) (.inl rfl) _).setCell (p := ⟨w.heap.size + 1, 1, none⟩) (.inl rfl) _
        generalize (w5.setCell ⟨w.heap.size + 1, 0, none⟩ (.slice A' lx C')).setCell ⟨w.heap.size + 1, 1, none⟩ (.int .i64 (SX.2 : Int)) = W4 at *
        have HO : Hid (W4.heap[w.heap.size + 1]? = some (.cells #[.slice A' lx C', .int .i64 (SX.2 : Int)] 65 (0, 0))) := hX4
        have HT : Hid (W4.heap[w.heap.size + 2]? = some (.cells #[.slice a2 n2 k2, .int .i64 ((ps2 ms t).2 : Int)] 65 (0, 0))) := by unfold Hid; rw [C54.block _ (heap_lt HT5.out) (by omega)]; exact HT5.out
        have HM4 : Hid (W4.heap[mb]? = some (.cells #[.int .i64 (p : Int), .int .i64 m.kd, .int .i64 m.a, .bool true, .slice (some ⟨b1, o1, none⟩) N c1, .slice (some ⟨b2, o2, none⟩) N c2, .slice (some ⟨b3, o3, none⟩) N c3, .slice (some ⟨b4, o4, none⟩) N c4, .slice a5 m.pipe.length c5, .slice a6 m.pipe2.length c6] 56 (0, 0))) := by unfold Hid; rw [C54.block _ (heap_lt HM5.out) nmo]; exact HM5.out
        have HP1 : Hid (PV Bs W4 (.slice A' lx C') SX.1) := HP5.out.chg C54 (fun g hg e => by have := (HP5.out.lt hg).1; have := HBS.out; omega)
        have HP2 : Hid (PV Bs W4 (.slice a2 n2 k2) (ps2 ms t).1) := HPO.out.chg C54 (fun g hg e => by have := (HPO.out.lt hg).1; have := HBS.out; omega)
        have HDJ : Hid (∀ g, (Value.slice A' lx C').ownBlock = some g → ¬ (Value.slice a2 n2 k2).ownBlock = some g) := fun g h1 h2 => by
          rcases HOW.out g h1 with h | h
          · exact HDJ0.out g h h2
          · have := (HQ2.out.lt h2).2; omega
        have HC4 : Hid (Chg (fun b => b = w.heap.size + 1 ∨ b = w.heap.size + 2 ∨ Bs ≤ b) W1 W4) := ((HC.out.trans (HC2.out.mono fun _ h => h.elim)).trans (HC5.out.mono fun b h => .inr (.inr (HQ1.out.lt h).1))).trans (C54.mono fun b h => .inl h)
        have HLA : Hid (_ ∧ _ ∧ _) := HLN
        have HLB : Hid (_ ∧ _ ∧ _) := HLO
        have HS1 := HSA
        have HS2 := HSB
        clear hX4 C54 g0 g1 g2 g3 g8 z50 z51 l50 l51 l52 nmo HSA HSB HLN HLO HO5 HT5 HM5 HP5 HPO
        have Q1 := drop_lf (HKO.out.2.1.trans (by rw [← HS1.out])) (show (SX).2 ≤ (SX).1.length by have := HLA.out; omega)
        have Q2 := drop_lf (HKO.out.2.2.trans (by rw [← HS2.out])) (show (ps2 ms t).2 ≤ (ps2 ms t).1.length by have := HLB.out; omega)
        have HQ1' : Hid (m.pipe.length = (SX).1.length - (SX).2 ∧ ∀ j, j < m.pipe.length → lf m.pipe j = lf (SX).1 ((SX).2 + j)) := Q1
        have HQ2' : Hid (m.pipe2.length = (ps2 ms t).1.length - (ps2 ms t).2 ∧ ∀ j, j < m.pipe2.length → lf m.pipe2 j = lf (ps2 ms t).1 ((ps2 ms t).2 + j)) := Q2
        clear Q1 Q2
        have HCN4 : Hid (Chg No w W4) := HC1.out.over HC4.out (fun b h => by have := HBS.out; rcases h with h | h | h <;> omega)
        refine (holds_any W4 A' C' (SX).1 HP1.out.ints lx HLA.out.1 HLA.out.2.1 (SX).2 HLA.out.2.2 a5 c5 m.pipe (HMV.out.chg HCN4.out).pi m.pipe.length rfl (by have := HQ1'.out.1; rw [HLA.out.1] at this; exact this) HQ1'.out.2).mono ?_
        rintro e W6 ⟨rfl, C6⟩
        have HC6 : Hid (Chg No W4 W6) := C6
        have u0 : W6.cell? ⟨w.heap.size + 2, 0, none⟩ = some (.slice a2 n2 k2) := by rw [C6.cell (p := ⟨w.heap.size + 2, 0, none⟩) (heap_lt HT.out) (fun h => h), cell_of HT.out]; rfl
        have u1 : W6.cell? ⟨w.heap.size + 2, 1, none⟩ = some (.int .i64 ((ps2 ms t).2 : Int)) := by rw [C6.cell (p := ⟨w.heap.size + 2, 1, none⟩) (heap_lt HT.out) (fun h => h), cell_of HT.out]; rfl
        have u8 : W6.cell? ⟨mb, 9, none⟩ = some (.slice a6 m.pipe2.length c6) := by rw [C6.cell (p := ⟨mb, 9, none⟩) (heap_lt HM4.out) (fun h => h), cell_of HM4.out]; rfl
        have ml6 : mb < W6.heap.size := Nat.lt_of_lt_of_le (heap_lt HM4.out) C6.size
        have tl6 : w.heap.size + 2 < W6.heap.size := Nat.lt_of_lt_of_le (heap_lt HT.out) C6.size
        clear C6
        go_wp2_with fail
        refine (holds_any W6 a2 k2 (ps2 ms t).1 (HP2.out.chg HC6.out (fun _ _ h => h)).ints n2 HLB.out.1 HLB.out.2.1 (ps2 ms t).2 HLB.out.2.2 a6 c6 m.pipe2 (HMV.out.chg (HCN4.out.trans HC6.out)).pj m.pipe2.length rfl (by have := HQ2'.out.1; rw [HLB.out.1] at this; exact this) HQ2'.out.2).mono ?_
        rintro e W7 ⟨rfl, C7⟩
        have HC7 : Hid (Chg No W4 W7) := HC6.out.trans C7
        have z7 : W7.cell? ⟨mb, 7, none⟩ = some (.slice (some ⟨b4, o4, none⟩) N c4) := by rw [HC7.out.cell (p := ⟨mb, 7, none⟩) (heap_lt HM4.out) (fun h => h), cell_of HM4.out]; rfl
        have ml7 : mb < W7.heap.size := Nat.lt_of_lt_of_le ml6 C7.size
        clear C7 u0 u1 u8 ml6 tl6
        go_wp2_with fail
        go_roundw
        case rel => exact ⟨t + 1, b4, o4, c4, A', lx, C', a2, n2, k2, by omega, by go_num, rfl, HB4.out.2, fun j hj => by rw [accOf_succ Hm.out]; exact (HMV.out.chg (HCN4.out.trans HC7.out)).acc j hj,
          by unfold Hid; rw [← HS1.out, HC7.out.block _ (heap_lt HO.out) (fun h => h)]; exact HO.out, by unfold Hid; rw [← HS2.out, HC7.out.block _ (heap_lt HT.out) (fun h => h)]; exact HT.out,
          by unfold Hid; rw [← HS1.out]; exact HP1.out.chg HC7.out (fun _ _ h => h), by unfold Hid; rw [← HS2.out]; exact HP2.out.chg HC7.out (fun _ _ h => h), HDJ,
          by unfold Hid; rw [← HS1.out]; have := HLA.out; have := HLX.out; exact ⟨by omega, by omega, by omega⟩, by unfold Hid; rw [← HS2.out]; have := HLB.out; have := HLX.out; exact ⟨by omega, by omega, by omega⟩, HC4.out.trans (HC7.out.mono fun _ h => h.elim)⟩
        case measure => simp [intOf]; omega
    · have hte : M = t := by omega
      subst hte
      go_wp2_with fail
      go_ret
      exact ⟨rfl, HCW.out⟩
end Go.Proofs.Ygdapg
