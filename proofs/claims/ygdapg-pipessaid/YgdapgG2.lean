/-
  written, WALKED.
-/
import Derived.Test.YgdapgG1
set_option linter.unusedSimpArgs false
set_option linter.unusedVariables false
namespace Go.Proofs.Ygdapg
open Go.RowKit

theorem run_build1 {o : Oper} {a : Act} {W : World} {x : Operand} {n : Int} (ho : o.op = .buildSlice 23 1 #[(0, x)]) (hx : a.eval x = .int .i64 n) :
    (execOp a.eval o).run Yapd.prog W = .ok (.value (.slice (some ⟨W.heap.size, 0, none⟩) 1 1)) (W.alloc (.cells #[.int .i64 n] 3)) := by
  generalize a.eval = ev at *
  simp [execOp, ho, hx, go_sem]
theorem results_boxS {P : Program} {fn : Func} {p q : Tmp} {ty : TypeId} {tmps : Array Value} {w : World} {rb : Nat} {cells : List Value} {d : TypeDesc} {v : Value} (h : fn.results = #[.cell p ty, .tmp q]) (hp : tmps.getD p undef = .pointer (some ⟨rb, 0, none⟩)) (hq : tmps.getD q undef = v)
    (hc : w.rangeAt rb 0 cells) (hu : P.underlying ty = some d) (hd : d.isRow = true) (hi : (P.info? ty).map (·.size) = some cells.length) : (results fn tmps).run P w = .ok (.tuple #[.agg cells.toArray, v]) w := by
  simp only [results, h]
  simp [Sem.run_bind, Result.andThen, asAddr] at hp hq ⊢
  rw [hp, hq]
  simp [run_loadVar_mid w rb 0 ty cells d hc hu hd hi]
theorem rg65 {w : World} {b : Nat} {x0 x1 : Value} (h0 : w.cell? ⟨b, 0, none⟩ = some x0) (h1 : w.cell? ⟨b, 1, none⟩ = some x1) : w.rangeAt b 0 [x0, x1] := fun j v hj => by
  have hlt := (List.getElem?_eq_some_iff.1 hj).1
  rw [Nat.zero_add]
  match j, hlt with
  | 0, _ => simp at hj; rw [← hj]; exact h0
  | 1, _ => simp at hj; rw [← hj]; exact h1
theorem run_load65 {o : Oper} {a : Act} {W : World} {x : Operand} {b : Nat} {x0 x1 : Value} (ho : o.op = .load 65 x) (hx : a.eval x = .pointer (some ⟨b, 0, none⟩)) (hc : W.rangeAt b 0 [x0, x1]) :
    (execOp a.eval o).run Yapd.prog W = .ok (.value (.agg #[x0, x1])) W := by
  have h := run_loadVar_mid (P := Yapd.prog) W b 0 65 [x0, x1] _ hc Yapd.underlying65 rfl (by kernel_rfl)
  simp [execOp, ho, hx, Instr.loadAt, Instr.sureAddr, h]

theorem kcr {rb : Nat} {w w' : World} {b o : Nat} {v : Value} (h : Chg (fun b => b = rb) w w') (e : w.cell? ⟨b, o, none⟩ = some v) (hb : b ≠ rb) : w'.cell? ⟨b, o, none⟩ = some v := kch h e hb

theorem Chg.overS {S T : Nat → Prop} {a b c : World} (h : Chg S a b) (k : Chg T b c) (hs : ∀ i, T i → S i ∨ a.heap.size ≤ i) : Chg S a c :=
  ⟨k.os.trans h.os, k.tape.trans h.tape, k.output.trans h.output, Nat.le_trans h.size k.size, fun i hi hn => by
    rw [k.block i (Nat.lt_of_lt_of_le hi h.size) (fun ht => by
      rcases hs i ht with h1 | h1
      · exact hn h1
      · omega)]
    exact h.block i hi hn⟩

/-- A pipe's values, in a block of their own. -/
def PV (Bs : Nat) (w : World) (v : Value) (xs : List Int) : Prop := w.ownsRow Bs 3 1 v xs.length (xs.map fun x => Value.int .i64 x)
theorem PV.shape {Bs : Nat} {w : World} {v : Value} {xs : List Int} (h : PV Bs w v xs) : ∃ a c, v = .slice a xs.length c := by
  rcases h.2 with ⟨h1, h2⟩ | ⟨g, cap, cur, h1, _⟩
  · exact ⟨none, 0, by rw [h2]; exact h1⟩
  · exact ⟨_, cap, h1⟩
theorem PV.lt {Bs : Nat} {w : World} {v : Value} {xs : List Int} (h : PV Bs w v xs) {g : Nat} (hg : v.ownBlock = some g) : Bs ≤ g ∧ g < w.heap.size := by
  rcases h.2 with ⟨h1, h2⟩ | ⟨g', cap, cur, h1, hb, hh, _⟩
  · rw [h1] at hg; cases hg
  · rw [h1] at hg
    obtain rfl : g' = g := by simpa [Value.ownBlock] using hg
    exact ⟨hb, heap_lt hh⟩
theorem PV.chg {Bs : Nat} {w w' : World} {v : Value} {xs : List Int} {S : Nat → Prop} (h : PV Bs w v xs) (hc : Chg S w w') (hs : ∀ g, v.ownBlock = some g → ¬ S g) : PV Bs w' v xs :=
  ownsRow_of_block h fun g hg hlt => hc.block g hlt (hs g hg)
theorem PV.ints {Bs : Nat} {w : World} {a : Option Addr} {n c : Nat} {xs : List Int} (h : PV Bs w (.slice a n c) xs) : IntsL w a xs := fun hp => by
  rcases h.2 with ⟨h1, h2⟩ | ⟨g, cap, cur, h1, _, hh, _, _, hsz, htk⟩
  · omega
  · obtain ⟨rfl, rfl, rfl⟩ : a = some ⟨g, 0, none⟩ ∧ n = xs.length ∧ c = cap := by simpa using h1
    refine ⟨g, 0, rfl, fun j hj => ?_⟩
    rw [Nat.zero_add, cell_of hh]
    have e : (cur.toList.take (xs.length * 1))[j]? = some (.int .i64 (lf xs j)) := by
      rw [htk]; simp [lf, hj]
    rw [List.getElem?_take_of_lt (by omega)] at e
    simpa using e
theorem PV.nil (Bs : Nat) (w : World) : PV Bs w (.slice none 0 0) [] := ⟨rfl, .inl ⟨rfl, rfl⟩⟩

/-- What written and taken leave. -/
def WrPost (Bs : Nat) (w : World) (vs : Value) (xs : List Int) (tk : Nat) (e : Ending) (w' : World) : Prop :=
  ∃ v', e = .returned (.tuple #[.agg #[v', .int .i64 (tk : Int)], .bool true]) ∧ PV Bs w' v' xs ∧ Chg (fun b => vs.ownBlock = some b) w w' ∧ ∀ g, v'.ownBlock = some g → vs.ownBlock = some g ∨ w.heap.size ≤ g

set_option maxRecDepth 100000 in
set_option maxHeartbeats 2000000 in
theorem written_full (w : World) (N : Nat) (hN : N ≤ 8) (m : Mo) (g i b1 o1 c1 b2 o2 c2 b3 o3 c3 b4 o4 c4 : Nat) (a5 : Option Addr) (c5 : Nat) (a6 : Option Addr) (c6 : Nat) (HMV : Hid (MV w N m g i b1 o1 c1 b2 o2 c2 b3 o3 c3 b4 o4 c4 a5 c5 a6 c6)) (ab ao ac : Nat) (acc : Nat → Int) (HA : Hid (∀ j, j < N → w.cell? ⟨ab, ao + j, none⟩ = some (.int .i64 (acc j)))) (p : Nat) (hp : p < N) (Bs : Nat) (hBs : Bs ≤ w.heap.size) (a0 : Option Addr) (c0 : Nat) (xs : List Int) (n : Nat) (Hn : Hid (xs.length = n)) (hn : n ≤ 255) (HX : Hid (PV Bs w (.slice a0 n c0) xs)) (tk : Nat) (htk : tk ≤ n) (on : Int) (hf : n - tk ≥ 3) (H2 : Hid (m.st p = 2 ∧ m.wo p = on ∧ m.acc p = acc p)) :
    Calls Yapd.prog 48 #[.agg #[.slice a0 n c0, .int .i64 (tk : Int)], .agg #[.int .i64 (p : Int), .int .i64 m.kd, .int .i64 m.a, .bool true, .slice (some ⟨b1, o1, none⟩) N c1, .slice (some ⟨b2, o2, none⟩) N c2, .slice (some ⟨b3, o3, none⟩) N c3, .slice (some ⟨b4, o4, none⟩) N c4, .slice a5 m.pipe.length c5, .slice a6 m.pipe2.length c6], .slice (some ⟨ab, ao, none⟩) N ac, .int .i64 on] w (WrPost Bs w (.slice a0 n c0) xs tk) := by
  go_enter Yapd.func48, Yapd.ntmps48
  go_wp2_with fail
  have hw0 : (((w.alloc (.cells #[.slice a0 n c0, .int .i64 (tk : Int)] 65)).alloc (.cells #[.int .i64 (p : Int), .int .i64 m.kd, .int .i64 m.a, .bool true, .slice (some ⟨b1, o1, none⟩) N c1, .slice (some ⟨b2, o2, none⟩) N c2, .slice (some ⟨b3, o3, none⟩) N c3, .slice (some ⟨b4, o4, none⟩) N c4, .slice a5 m.pipe.length c5, .slice a6 m.pipe2.length c6] 56)).alloc (.cells #[.slice none 0 0, .int .i64 0] 65)).heap[w.heap.size]? = some (.cells #[.slice a0 n c0, .int .i64 (tk : Int)] 65 (0, 0)) := by
    rw [Below.heap_alloc _ _ _ (by simp; omega)]; exact al2_old _ _ _
  have hm0 : (((w.alloc (.cells #[.slice a0 n c0, .int .i64 (tk : Int)] 65)).alloc (.cells #[.int .i64 (p : Int), .int .i64 m.kd, .int .i64 m.a, .bool true, .slice (some ⟨b1, o1, none⟩) N c1, .slice (some ⟨b2, o2, none⟩) N c2, .slice (some ⟨b3, o3, none⟩) N c3, .slice (some ⟨b4, o4, none⟩) N c4, .slice a5 m.pipe.length c5, .slice a6 m.pipe2.length c6] 56)).alloc (.cells #[.slice none 0 0, .int .i64 0] 65)).heap[w.heap.size + 1]? = some (.cells #[.int .i64 (p : Int), .int .i64 m.kd, .int .i64 m.a, .bool true, .slice (some ⟨b1, o1, none⟩) N c1, .slice (some ⟨b2, o2, none⟩) N c2, .slice (some ⟨b3, o3, none⟩) N c3, .slice (some ⟨b4, o4, none⟩) N c4, .slice a5 m.pipe.length c5, .slice a6 m.pipe2.length c6] 56 (0, 0)) := by
    rw [Below.heap_alloc _ _ _ (by simp)]; exact al2_new _ _ _
  have hr0 : Boxed (w.heap.size + 2) 2 (((w.alloc (.cells #[.slice a0 n c0, .int .i64 (tk : Int)] 65)).alloc (.cells #[.int .i64 (p : Int), .int .i64 m.kd, .int .i64 m.a, .bool true, .slice (some ⟨b1, o1, none⟩) N c1, .slice (some ⟨b2, o2, none⟩) N c2, .slice (some ⟨b3, o3, none⟩) N c3, .slice (some ⟨b4, o4, none⟩) N c4, .slice a5 m.pipe.length c5, .slice a6 m.pipe2.length c6] 56)).alloc (.cells #[.slice none 0 0, .int .i64 0] 65)) := by
    have := Boxed.new ((w.alloc (.cells #[.slice a0 n c0, .int .i64 (tk : Int)] 65)).alloc (.cells #[.int .i64 (p : Int), .int .i64 m.kd, .int .i64 m.a, .bool true, .slice (some ⟨b1, o1, none⟩) N c1, .slice (some ⟨b2, o2, none⟩) N c2, .slice (some ⟨b3, o3, none⟩) N c3, .slice (some ⟨b4, o4, none⟩) N c4, .slice a5 m.pipe.length c5, .slice a6 m.pipe2.length c6] 56)) #[.slice none 0 0, .int .i64 0] 65
    simpa using this
  have C0 : Chg No w (((w.alloc (.cells #[.slice a0 n c0, .int .i64 (tk : Int)] 65)).alloc (.cells #[.int .i64 (p : Int), .int .i64 m.kd, .int .i64 m.a, .bool true, .slice (some ⟨b1, o1, none⟩) N c1, .slice (some ⟨b2, o2, none⟩) N c2, .slice (some ⟨b3, o3, none⟩) N c3, .slice (some ⟨b4, o4, none⟩) N c4, .slice a5 m.pipe.length c5, .slice a6 m.pipe2.length c6] 56)).alloc (.cells #[.slice none 0 0, .int .i64 0] 65)) := (((Chg.refl _ _).alloc _).alloc _).alloc _
  generalize ((w.alloc (.cells #[.slice a0 n c0, .int .i64 (tk : Int)] 65)).alloc (.cells #[.int .i64 (p : Int), .int .i64 m.kd, .int .i64 m.a, .bool true, .slice (some ⟨b1, o1, none⟩) N c1, .slice (some ⟨b2, o2, none⟩) N c2, .slice (some ⟨b3, o3, none⟩) N c3, .slice (some ⟨b4, o4, none⟩) N c4, .slice a5 m.pipe.length c5, .slice a6 m.pipe2.length c6] 56)).alloc (.cells #[.slice none 0 0, .int .i64 0] 65) = W0 at *
  refine (covers_any W0 N hN m g i b1 o1 c1 b2 o2 c2 b3 o3 c3 b4 o4 c4 a5 c5 a6 c6 (HMV.out.chg C0) ab ao ac acc (fun j hj => kch C0 (HA.out j hj)) p hp).mono ?_
  rintro e W1 ⟨rfl, C1⟩
  have hw1 : W1.heap[w.heap.size]? = some (.cells #[.slice a0 n c0, .int .i64 (tk : Int)] 65 (0, 0)) := by rw [C1.block _ (heap_lt hw0) (fun h => h)]; exact hw0
  have hm1 : W1.heap[w.heap.size + 1]? = some (.cells #[.int .i64 (p : Int), .int .i64 m.kd, .int .i64 m.a, .bool true, .slice (some ⟨b1, o1, none⟩) N c1, .slice (some ⟨b2, o2, none⟩) N c2, .slice (some ⟨b3, o3, none⟩) N c3, .slice (some ⟨b4, o4, none⟩) N c4, .slice a5 m.pipe.length c5, .slice a6 m.pipe2.length c6] 56 (0, 0)) := by rw [C1.block _ (heap_lt hm0) (fun h => h)]; exact hm0
  have HRB : Hid (Boxed (w.heap.size + 2) 2 W1) := hr0.chg C1 (fun h => h)
  have HC1 : Hid (Chg No w W1) := C0.trans C1
  have HW1 : Hid (W1.heap[w.heap.size]? = some (.cells #[.slice a0 n c0, .int .i64 (tk : Int)] 65 (0, 0))) := hw1
  have w0 : W1.cell? ⟨w.heap.size, 0, none⟩ = some (.slice a0 n c0) := by rw [cell_of hw1]; rfl
  have w1 : W1.cell? ⟨w.heap.size, 1, none⟩ = some (.int .i64 (tk : Int)) := by rw [cell_of hw1]; rfl
  have e0 : W1.cell? ⟨w.heap.size + 1, 0, none⟩ = some (.int .i64 (p : Int)) := by rw [cell_of hm1]; rfl
  have e1 : W1.cell? ⟨w.heap.size + 1, 1, none⟩ = some (.int .i64 m.kd) := by rw [cell_of hm1]; rfl
  have e2 : W1.cell? ⟨w.heap.size + 1, 2, none⟩ = some (.int .i64 m.a) := by rw [cell_of hm1]; rfl
  have e3 : W1.cell? ⟨w.heap.size + 1, 3, none⟩ = some (.bool true) := by rw [cell_of hm1]; rfl
  have e4 : W1.cell? ⟨w.heap.size + 1, 4, none⟩ = some (.slice (some ⟨b1, o1, none⟩) N c1) := by rw [cell_of hm1]; rfl
  have e5 : W1.cell? ⟨w.heap.size + 1, 5, none⟩ = some (.slice (some ⟨b2, o2, none⟩) N c2) := by rw [cell_of hm1]; rfl
  have e6 : W1.cell? ⟨w.heap.size + 1, 6, none⟩ = some (.slice (some ⟨b3, o3, none⟩) N c3) := by rw [cell_of hm1]; rfl
  have e7 : W1.cell? ⟨w.heap.size + 1, 7, none⟩ = some (.slice (some ⟨b4, o4, none⟩) N c4) := by rw [cell_of hm1]; rfl
  have e8 : W1.cell? ⟨w.heap.size + 1, 8, none⟩ = some (.slice a5 m.pipe.length c5) := by rw [cell_of hm1]; rfl
  have e9 : W1.cell? ⟨w.heap.size + 1, 9, none⟩ = some (.slice a6 m.pipe2.length c6) := by rw [cell_of hm1]; rfl
  have ls := HRB.out.lt
  have ls0 : w.heap.size < W1.heap.size := by omega
  have ls1 : w.heap.size + 1 < W1.heap.size := by omega
  have HM1 : Hid (MV W1 N m g i b1 o1 c1 b2 o2 c2 b3 o3 c3 b4 o4 c4 a5 c5 a6 c6) := HMV.out.chg HC1.out
  have q1 : W1.cell? ⟨ab, ao + p, none⟩ = some (.int .i64 (acc p)) := kch HC1.out (HA.out p hp)
  clear hw0 hm0 hr0 C0 C1 hw1 hm1
  have hge : decide ((n : Int) - (tk : Int) ≥ 3) = true := by simp; omega
  go_wp2_with fail
  have HS : Chg (fun b => b = w.heap.size + 2) W1 W1.drew := (Chg.refl _ _).drew
  refine wp_region_S (fun W => Chg (fun b => b = w.heap.size + 2) W1 W) [0, 1, 2, 3, 6] (by kernel_rfl) ?_
  refine wpAnyS_take 0 (Value.agg #[.slice a0 n c0, .int .i64 (tk : Int)]) rfl (by kernel_rfl) (by kernel_rfl) (by kernel_rfl) (by kernel_rfl) (fun _ _ _ h => h) (by rfl) HS (fun _ h => run_load65 rfl rfl (rg65 (kcr h w0 (by omega)) (kcr h w1 (by omega)))) ?_
  simp only [Act.put, List.setIfInBounds_toArray, List.set_cons_zero, List.set_cons_succ]
  refine wpAnyS_take 1 (Value.agg #[.int .i64 (p : Int), .int .i64 m.kd, .int .i64 m.a, .bool true, .slice (some ⟨b1, o1, none⟩) N c1, .slice (some ⟨b2, o2, none⟩) N c2, .slice (some ⟨b3, o3, none⟩) N c3, .slice (some ⟨b4, o4, none⟩) N c4, .slice a5 m.pipe.length c5, .slice a6 m.pipe2.length c6]) rfl (by kernel_rfl) (by kernel_rfl) (by kernel_rfl) (by kernel_rfl) (fun _ _ _ h => h) (by rfl) HS (fun _ h => run_load56 rfl rfl (rg56 (kcr h e0 (by omega)) (kcr h e1 (by omega)) (kcr h e2 (by omega)) (kcr h e3 (by omega)) (kcr h e4 (by omega)) (kcr h e5 (by omega)) (kcr h e6 (by omega)) (kcr h e7 (by omega)) (kcr h e8 (by omega)) (kcr h e9 (by omega)))) ?_
  simp only [Act.put, List.setIfInBounds_toArray, List.set_cons_zero, List.set_cons_succ]
  refine wpAnyS_take 2 (Value.slice (some ⟨ab, ao, none⟩) N ac) rfl (by kernel_rfl) (by kernel_rfl) (by kernel_rfl) (by kernel_rfl) (fun _ _ _ h => h) (by rfl) HS (fun _ _ => rfl) ?_
  simp only [Act.put, List.setIfInBounds_toArray, List.set_cons_zero, List.set_cons_succ]
  refine wpAnyS_take 3 (Value.int .i64 on) rfl (by kernel_rfl) (by kernel_rfl) (by kernel_rfl) (by kernel_rfl) (fun _ _ _ h => h) (by rfl) HS (fun _ _ => rfl) ?_
  simp only [Act.put, List.setIfInBounds_toArray, List.set_cons_zero, List.set_cons_succ]
  refine wpAnyS_one 4 rfl (by kernel_rfl) (by rfl) ?_
  refine wp_callF 65 Yapd.func65 rfl (by kernel_rfl) [.agg #[.int .i64 (p : Int), .int .i64 m.kd, .int .i64 m.a, .bool true, .slice (some ⟨b1, o1, none⟩) N c1, .slice (some ⟨b2, o2, none⟩) N c2, .slice (some ⟨b3, o3, none⟩) N c3, .slice (some ⟨b4, o4, none⟩) N c4, .slice a5 m.pipe.length c5, .slice a6 m.pipe2.length c6], .slice (some ⟨ab, ao, none⟩) N ac, .int .i64 on] rfl rfl (fun v w' => v = .bool true ∧ Chg No W1.drew w')
    ((blocked_any W1.drew N hN m g i b1 o1 c1 b2 o2 c2 b3 o3 c3 b4 o4 c4 a5 c5 a6 c6 (HMV.out.chg (HC1.out.drew)) ab ao ac acc (fun j hj => kch (HC1.out.drew) (HA.out j hj)) p hp on H2).mono fun e w' h => ⟨_, h.1, rfl, h.2⟩) ?_
  rintro v W6 ⟨rfl, C6⟩
  have HS6 : Chg (fun b => b = w.heap.size + 2) W1 W6 := HS.trans (C6.mono fun _ h => h.elim)
  have HN6 : Chg No W1 W6 := ((Chg.refl No W1).drew).trans C6
  clear HS C6
  have HS := HS6
  clear HS6
  refine ⟨.inr HS, ?_⟩
  simp only [Act.put, List.setIfInBounds_toArray, List.set_cons_zero, List.set_cons_succ]
  have HR6 : Boxed (w.heap.size + 2) 2 W6 := HRB.out.chg HN6 (fun h => h)
  refine wpAnyS_one 5 rfl (by kernel_rfl) (by rfl) ?_
  refine wp_store_mid 65 _ _ rfl (w.heap.size + 2) 0 #[.slice a0 n c0, .int .i64 (tk : Int)] rfl rfl HR6.there (by kernel_rfl) (by simp [Value.oneCell']) ?_
  have C7 : Chg (fun b => b = w.heap.size + 2) W6 (W6.setCells (w.heap.size + 2) 0 [.slice a0 n c0, .int .i64 (tk : Int)]) := Chg.setCells (S := fun b => b = w.heap.size + 2) (.inl rfl) _ _ _ (Chg.refl _ _)
  have HS7 := HS.trans C7
  clear HS
  have HS := HS7
  clear HS7
  refine ⟨.inr HS, ?_⟩
  simp only [Act.put, List.setIfInBounds_toArray, List.set_cons_zero, List.set_cons_succ]
  refine wpAnyS_take 6 (Value.bool true) rfl (by kernel_rfl) (by kernel_rfl) (by kernel_rfl) (by kernel_rfl) (fun _ _ _ h => h) (by rfl) HS (fun _ _ => rfl) ?_
  simp only [Act.put, List.setIfInBounds_toArray, List.set_cons_zero, List.set_cons_succ]
  refine wpAnyS_done (by kernel_rfl) ?_
  have RG : (W6.setCells (w.heap.size + 2) 0 [.slice a0 n c0, .int .i64 (tk : Int)]).rangeAt (w.heap.size + 2) 0 [.slice a0 n c0, .int .i64 (tk : Int)] := World.rangeAt_setCells_same _ _ _ _ HR6.there
  have HG : Hid ((W6.setCells (w.heap.size + 2) 0 [.slice a0 n c0, .int .i64 (tk : Int)]).rangeAt (w.heap.size + 2) 0 [.slice a0 n c0, .int .i64 (tk : Int)]) := RG
  have HC9 : Hid (Chg No w (W6.setCells (w.heap.size + 2) 0 [.slice a0 n c0, .int .i64 (tk : Int)])) := (HC1.out.trans HN6).over C7 (fun b h => by omega)
  clear RG C7 HR6 HS HN6
  go_wp2_with fail
  refine bodyPost_ret (results_boxS Yapd.results48 rfl rfl HG.out Yapd.underlying65 rfl (by kernel_rfl)) rfl ?_
  exact ⟨_, rfl, HX.out.chg HC9.out (fun _ _ h => h), HC9.out.mono (fun _ h => h.elim), fun g hg => .inl hg⟩

set_option maxRecDepth 100000 in
set_option maxHeartbeats 4000000 in
theorem written_room (w : World) (N : Nat) (hN : N ≤ 8) (m : Mo) (g i b1 o1 c1 b2 o2 c2 b3 o3 c3 b4 o4 c4 : Nat) (a5 : Option Addr) (c5 : Nat) (a6 : Option Addr) (c6 : Nat) (HMV : Hid (MV w N m g i b1 o1 c1 b2 o2 c2 b3 o3 c3 b4 o4 c4 a5 c5 a6 c6)) (ab ao ac : Nat) (acc : Nat → Int) (HA : Hid (∀ j, j < N → w.cell? ⟨ab, ao + j, none⟩ = some (.int .i64 (acc j)))) (p : Nat) (hp : p < N) (Bs : Nat) (hBs : Bs ≤ w.heap.size) (a0 : Option Addr) (c0 : Nat) (xs : List Int) (n : Nat) (Hn : Hid (xs.length = n)) (hn : n ≤ 255) (HX : Hid (PV Bs w (.slice a0 n c0) xs)) (tk : Nat) (htk : tk ≤ n) (on : Int) (hf : n - tk < 3) (hab : ab < Bs) (HLT : Hid (b1 < Bs ∧ b4 < Bs)) (H2 : Hid (m.st p = 0 ∧ m.acc p = acc p)) :
    Calls Yapd.prog 48 #[.agg #[.slice a0 n c0, .int .i64 (tk : Int)], .agg #[.int .i64 (p : Int), .int .i64 m.kd, .int .i64 m.a, .bool true, .slice (some ⟨b1, o1, none⟩) N c1, .slice (some ⟨b2, o2, none⟩) N c2, .slice (some ⟨b3, o3, none⟩) N c3, .slice (some ⟨b4, o4, none⟩) N c4, .slice a5 m.pipe.length c5, .slice a6 m.pipe2.length c6], .slice (some ⟨ab, ao, none⟩) N ac, .int .i64 on] w (WrPost Bs w (.slice a0 n c0) (xs ++ [acc p]) tk) := by
  go_enter Yapd.func48, Yapd.ntmps48
  go_wp2_with fail
  have hw0 : (((w.alloc (.cells #[.slice a0 n c0, .int .i64 (tk : Int)] 65)).alloc (.cells #[.int .i64 (p : Int), .int .i64 m.kd, .int .i64 m.a, .bool true, .slice (some ⟨b1, o1, none⟩) N c1, .slice (some ⟨b2, o2, none⟩) N c2, .slice (some ⟨b3, o3, none⟩) N c3, .slice (some ⟨b4, o4, none⟩) N c4, .slice a5 m.pipe.length c5, .slice a6 m.pipe2.length c6] 56)).alloc (.cells #[.slice none 0 0, .int .i64 0] 65)).heap[w.heap.size]? = some (.cells #[.slice a0 n c0, .int .i64 (tk : Int)] 65 (0, 0)) := by
    rw [Below.heap_alloc _ _ _ (by simp; omega)]; exact al2_old _ _ _
  have hm0 : (((w.alloc (.cells #[.slice a0 n c0, .int .i64 (tk : Int)] 65)).alloc (.cells #[.int .i64 (p : Int), .int .i64 m.kd, .int .i64 m.a, .bool true, .slice (some ⟨b1, o1, none⟩) N c1, .slice (some ⟨b2, o2, none⟩) N c2, .slice (some ⟨b3, o3, none⟩) N c3, .slice (some ⟨b4, o4, none⟩) N c4, .slice a5 m.pipe.length c5, .slice a6 m.pipe2.length c6] 56)).alloc (.cells #[.slice none 0 0, .int .i64 0] 65)).heap[w.heap.size + 1]? = some (.cells #[.int .i64 (p : Int), .int .i64 m.kd, .int .i64 m.a, .bool true, .slice (some ⟨b1, o1, none⟩) N c1, .slice (some ⟨b2, o2, none⟩) N c2, .slice (some ⟨b3, o3, none⟩) N c3, .slice (some ⟨b4, o4, none⟩) N c4, .slice a5 m.pipe.length c5, .slice a6 m.pipe2.length c6] 56 (0, 0)) := by
    rw [Below.heap_alloc _ _ _ (by simp)]; exact al2_new _ _ _
  have hr0 : Boxed (w.heap.size + 2) 2 (((w.alloc (.cells #[.slice a0 n c0, .int .i64 (tk : Int)] 65)).alloc (.cells #[.int .i64 (p : Int), .int .i64 m.kd, .int .i64 m.a, .bool true, .slice (some ⟨b1, o1, none⟩) N c1, .slice (some ⟨b2, o2, none⟩) N c2, .slice (some ⟨b3, o3, none⟩) N c3, .slice (some ⟨b4, o4, none⟩) N c4, .slice a5 m.pipe.length c5, .slice a6 m.pipe2.length c6] 56)).alloc (.cells #[.slice none 0 0, .int .i64 0] 65)) := by
    have := Boxed.new ((w.alloc (.cells #[.slice a0 n c0, .int .i64 (tk : Int)] 65)).alloc (.cells #[.int .i64 (p : Int), .int .i64 m.kd, .int .i64 m.a, .bool true, .slice (some ⟨b1, o1, none⟩) N c1, .slice (some ⟨b2, o2, none⟩) N c2, .slice (some ⟨b3, o3, none⟩) N c3, .slice (some ⟨b4, o4, none⟩) N c4, .slice a5 m.pipe.length c5, .slice a6 m.pipe2.length c6] 56)) #[.slice none 0 0, .int .i64 0] 65
    simpa using this
  have C0 : Chg No w (((w.alloc (.cells #[.slice a0 n c0, .int .i64 (tk : Int)] 65)).alloc (.cells #[.int .i64 (p : Int), .int .i64 m.kd, .int .i64 m.a, .bool true, .slice (some ⟨b1, o1, none⟩) N c1, .slice (some ⟨b2, o2, none⟩) N c2, .slice (some ⟨b3, o3, none⟩) N c3, .slice (some ⟨b4, o4, none⟩) N c4, .slice a5 m.pipe.length c5, .slice a6 m.pipe2.length c6] 56)).alloc (.cells #[.slice none 0 0, .int .i64 0] 65)) := (((Chg.refl _ _).alloc _).alloc _).alloc _
  generalize ((w.alloc (.cells #[.slice a0 n c0, .int .i64 (tk : Int)] 65)).alloc (.cells #[.int .i64 (p : Int), .int .i64 m.kd, .int .i64 m.a, .bool true, .slice (some ⟨b1, o1, none⟩) N c1, .slice (some ⟨b2, o2, none⟩) N c2, .slice (some ⟨b3, o3, none⟩) N c3, .slice (some ⟨b4, o4, none⟩) N c4, .slice a5 m.pipe.length c5, .slice a6 m.pipe2.length c6] 56)).alloc (.cells #[.slice none 0 0, .int .i64 0] 65) = W0 at *
  refine (covers_any W0 N hN m g i b1 o1 c1 b2 o2 c2 b3 o3 c3 b4 o4 c4 a5 c5 a6 c6 (HMV.out.chg C0) ab ao ac acc (fun j hj => kch C0 (HA.out j hj)) p hp).mono ?_
  rintro e W1 ⟨rfl, C1⟩
  have hw1 : W1.heap[w.heap.size]? = some (.cells #[.slice a0 n c0, .int .i64 (tk : Int)] 65 (0, 0)) := by rw [C1.block _ (heap_lt hw0) (fun h => h)]; exact hw0
  have hm1 : W1.heap[w.heap.size + 1]? = some (.cells #[.int .i64 (p : Int), .int .i64 m.kd, .int .i64 m.a, .bool true, .slice (some ⟨b1, o1, none⟩) N c1, .slice (some ⟨b2, o2, none⟩) N c2, .slice (some ⟨b3, o3, none⟩) N c3, .slice (some ⟨b4, o4, none⟩) N c4, .slice a5 m.pipe.length c5, .slice a6 m.pipe2.length c6] 56 (0, 0)) := by rw [C1.block _ (heap_lt hm0) (fun h => h)]; exact hm0
  have HRB : Hid (Boxed (w.heap.size + 2) 2 W1) := hr0.chg C1 (fun h => h)
  have HC1 : Hid (Chg No w W1) := C0.trans C1
  have HW1 : Hid (W1.heap[w.heap.size]? = some (.cells #[.slice a0 n c0, .int .i64 (tk : Int)] 65 (0, 0))) := hw1
  have w0 : W1.cell? ⟨w.heap.size, 0, none⟩ = some (.slice a0 n c0) := by rw [cell_of hw1]; rfl
  have w1 : W1.cell? ⟨w.heap.size, 1, none⟩ = some (.int .i64 (tk : Int)) := by rw [cell_of hw1]; rfl
  have e0 : W1.cell? ⟨w.heap.size + 1, 0, none⟩ = some (.int .i64 (p : Int)) := by rw [cell_of hm1]; rfl
  have e1 : W1.cell? ⟨w.heap.size + 1, 1, none⟩ = some (.int .i64 m.kd) := by rw [cell_of hm1]; rfl
  have e2 : W1.cell? ⟨w.heap.size + 1, 2, none⟩ = some (.int .i64 m.a) := by rw [cell_of hm1]; rfl
  have e3 : W1.cell? ⟨w.heap.size + 1, 3, none⟩ = some (.bool true) := by rw [cell_of hm1]; rfl
  have e4 : W1.cell? ⟨w.heap.size + 1, 4, none⟩ = some (.slice (some ⟨b1, o1, none⟩) N c1) := by rw [cell_of hm1]; rfl
  have e5 : W1.cell? ⟨w.heap.size + 1, 5, none⟩ = some (.slice (some ⟨b2, o2, none⟩) N c2) := by rw [cell_of hm1]; rfl
  have e6 : W1.cell? ⟨w.heap.size + 1, 6, none⟩ = some (.slice (some ⟨b3, o3, none⟩) N c3) := by rw [cell_of hm1]; rfl
  have e7 : W1.cell? ⟨w.heap.size + 1, 7, none⟩ = some (.slice (some ⟨b4, o4, none⟩) N c4) := by rw [cell_of hm1]; rfl
  have e8 : W1.cell? ⟨w.heap.size + 1, 8, none⟩ = some (.slice a5 m.pipe.length c5) := by rw [cell_of hm1]; rfl
  have e9 : W1.cell? ⟨w.heap.size + 1, 9, none⟩ = some (.slice a6 m.pipe2.length c6) := by rw [cell_of hm1]; rfl
  have ls := HRB.out.lt
  have ls0 : w.heap.size < W1.heap.size := by omega
  have ls1 : w.heap.size + 1 < W1.heap.size := by omega
  have HM1 : Hid (MV W1 N m g i b1 o1 c1 b2 o2 c2 b3 o3 c3 b4 o4 c4 a5 c5 a6 c6) := HMV.out.chg HC1.out
  have q1 : W1.cell? ⟨ab, ao + p, none⟩ = some (.int .i64 (acc p)) := kch HC1.out (HA.out p hp)
  clear hw0 hm0 hr0 C0 C1 hw1 hm1
  have hge : decide ((n : Int) - (tk : Int) ≥ 3) = false := by simp; omega
  go_wp2_with fail
  have OB : ∀ g, (Value.slice a0 n c0).ownBlock = some g → Bs ≤ g ∧ g < w.heap.size := fun g hg => HX.out.lt hg
  have HS : W1.drew.cell? ⟨w.heap.size, 0, none⟩ = some (.slice a0 n c0) ∧ W1.drew.cell? ⟨w.heap.size + 1, 0, none⟩ = some (.int .i64 (p : Int)) ∧ W1.drew.cell? ⟨ab, ao + p, none⟩ = some (.int .i64 (acc p)) := ⟨w0, e0, q1⟩
  refine wp_region_S (fun W => W.cell? ⟨w.heap.size, 0, none⟩ = some (.slice a0 n c0) ∧ W.cell? ⟨w.heap.size + 1, 0, none⟩ = some (.int .i64 (p : Int)) ∧ W.cell? ⟨ab, ao + p, none⟩ = some (.int .i64 (acc p))) [0, 1, 2, 3, 4, 5, 6, 9] (by kernel_rfl) ?_
  refine wpAnyS_take 0 (Value.pointer (some ⟨w.heap.size, 0, none⟩)) rfl (by kernel_rfl) (by kernel_rfl) (by kernel_rfl) (by kernel_rfl) (fun _ _ _ h => h) (by rfl) HS (fun _ _ => by kernel_rfl) ?_
  simp only [Act.put, List.setIfInBounds_toArray, List.set_cons_zero, List.set_cons_succ]
  refine wpAnyS_take 1 (Value.slice a0 n c0) rfl (by kernel_rfl) (by kernel_rfl) (by kernel_rfl) (by kernel_rfl) (fun _ _ _ h => h) (by rfl) HS (fun _ h => run_load23 rfl rfl (h.1)) ?_
  simp only [Act.put, List.setIfInBounds_toArray, List.set_cons_zero, List.set_cons_succ]
  refine wpAnyS_take 2 (Value.slice (some ⟨ab, ao, none⟩) N ac) rfl (by kernel_rfl) (by kernel_rfl) (by kernel_rfl) (by kernel_rfl) (fun _ _ _ h => h) (by rfl) HS (fun _ _ => rfl) ?_
  simp only [Act.put, List.setIfInBounds_toArray, List.set_cons_zero, List.set_cons_succ]
  refine wpAnyS_take 3 (Value.pointer (some ⟨w.heap.size + 1, 0, none⟩)) rfl (by kernel_rfl) (by kernel_rfl) (by kernel_rfl) (by kernel_rfl) (fun _ _ _ h => h) (by rfl) HS (fun _ _ => by kernel_rfl) ?_
  simp only [Act.put, List.setIfInBounds_toArray, List.set_cons_zero, List.set_cons_succ]
  refine wpAnyS_take 4 (Value.int .i64 (p : Int)) rfl (by kernel_rfl) (by kernel_rfl) (by kernel_rfl) (by kernel_rfl) (fun _ _ _ h => h) (by rfl) HS (fun _ h => run_load3 rfl rfl (h.2.1)) ?_
  simp only [Act.put, List.setIfInBounds_toArray, List.set_cons_zero, List.set_cons_succ]
  refine wpAnyS_take 5 (Value.pointer (some ⟨ab, ao + p, none⟩)) rfl (by kernel_rfl) (by kernel_rfl) (by kernel_rfl) (by kernel_rfl) (fun _ _ _ h => h) (by rfl) HS (fun _ _ => run_index23 rfl rfl rfl hp) ?_
  simp only [Act.put, List.setIfInBounds_toArray, List.set_cons_zero, List.set_cons_succ]
  refine wpAnyS_take 6 (Value.int .i64 (acc p)) rfl (by kernel_rfl) (by kernel_rfl) (by kernel_rfl) (by kernel_rfl) (fun _ _ _ h => h) (by rfl) HS (fun _ h => run_load3 rfl rfl (h.2.2)) ?_
  simp only [Act.put, List.setIfInBounds_toArray, List.set_cons_zero, List.set_cons_succ]
  refine wpAnyS_one 7 rfl (by kernel_rfl) (by rfl) ?_
  have CA : Chg No W1 (W1.drew.alloc (.cells #[.int .i64 (acc p)] 3)) := ((Chg.refl _ _).drew).alloc _
  have HS2 : (W1.drew.alloc (.cells #[.int .i64 (acc p)] 3)).cell? ⟨w.heap.size, 0, none⟩ = some (.slice a0 n c0) ∧ (W1.drew.alloc (.cells #[.int .i64 (acc p)] 3)).cell? ⟨w.heap.size + 1, 0, none⟩ = some (.int .i64 (p : Int)) ∧ (W1.drew.alloc (.cells #[.int .i64 (acc p)] 3)).cell? ⟨ab, ao + p, none⟩ = some (.int .i64 (acc p)) := ⟨kch CA w0, kch CA e0, kch CA q1⟩
  refine wp_val (.slice (some ⟨W1.heap.size, 0, none⟩) 1 1) (w' := W1.drew.alloc (.cells #[.int .i64 (acc p)] 3)) (run_build1 rfl rfl) ⟨.inr HS2, ?_⟩
  simp only [Act.put, List.setIfInBounds_toArray, List.set_cons_zero, List.set_cons_succ]
  have HNB : (W1.drew.alloc (.cells #[.int .i64 (acc p)] 3)).heap[W1.heap.size]? = some (.cells #[.int .i64 (acc p)] 3 (0, 0)) := heap_alloc_new' W1.drew _
  have OWN : (W1.drew.alloc (.cells #[.int .i64 (acc p)] 3)).ownsRow Bs 3 1 (.slice a0 n c0) n (xs.map fun x => Value.int .i64 x) := by
    have := HX.out.chg (HC1.out.trans CA) (fun _ _ h => h)
    unfold PV at this
    rw [Hn.out] at this
    exact this
  have hsz : (W1.drew.alloc (.cells #[.int .i64 (acc p)] 3)).heap.size = W1.heap.size + 1 := by simp
  generalize W1.drew.alloc (.cells #[.int .i64 (acc p)] 3) = W2 at *
  refine wpAnyS_one 8 rfl (by kernel_rfl) (by rfl) ?_
  obtain ⟨i0, hi, hz0, hz1, hz2⟩ := info_parts (P := Yapd.prog) (e := 3) (z := .int .i64 0) (size := 1) (bytes := 8) (by kernel_rfl)
  refine wp_append_lies W2 _ _ 23 rfl Bs 3 i0 (.int .i64 0) 1 8 Yapd.underlying23 hi hz0 hz1 hz2 rfl (by decide) (.slice a0 n c0) n _ rfl OWN ⟨W1.heap.size, 0, none⟩ 1 1 [.int .i64 (acc p)] rfl rfl (World.news_of_block HNB) (by simp [Value.oneCell']) (by decide) (by unfold maxLen; omega) (by omega) (by have := HC1.out.size; omega) (W1.heap.size + 1) hsz ?_
  intro g' cap w8 hown hgrow hat hlt
  have C8 : Chg (fun b => (Value.slice a0 n c0).ownBlock = some b) W2 w8 := grown_chg hgrow
  have nS : ∀ b, b ≠ 0 + b + 1 → (w.heap.size ≤ b ∨ b < Bs) → ¬ (Value.slice a0 n c0).ownBlock = some b := fun b _ hb hg => by
    have := OB b hg; omega
  have HS8 : w8.cell? ⟨w.heap.size, 0, none⟩ = some (.slice a0 n c0) ∧ w8.cell? ⟨w.heap.size + 1, 0, none⟩ = some (.int .i64 (p : Int)) ∧ w8.cell? ⟨ab, ao + p, none⟩ = some (.int .i64 (acc p)) :=
    ⟨kch C8 HS2.1 (nS _ (by omega) (by omega)), kch C8 HS2.2.1 (nS _ (by omega) (by omega)), kch C8 HS2.2.2 (nS _ (by omega) (by omega))⟩
  refine ⟨.inr HS8, ?_⟩
  simp only [Act.put, List.setIfInBounds_toArray, List.set_cons_zero, List.set_cons_succ]
  refine wpAnyS_take 9 (Value.pointer (some ⟨w.heap.size, 0, none⟩)) rfl (by kernel_rfl) (by kernel_rfl) (by kernel_rfl) (by kernel_rfl) (fun _ _ _ h => h) (by rfl) HS8 (fun _ _ => by kernel_rfl) ?_
  simp only [Act.put, List.setIfInBounds_toArray, List.set_cons_zero, List.set_cons_succ]
  have hw8 : w8.heap[w.heap.size]? = some (.cells #[.slice a0 n c0, .int .i64 (tk : Int)] 65 (0, 0)) := by
    rw [C8.block _ (by omega) (nS _ (by omega) (by omega)), CA.block _ ls0 (fun h => h)]; exact HW1.out
  refine wpAnyS_one 10 rfl (by kernel_rfl) (by rfl) ?_
  refine wp_store23 (v := .slice (some ⟨g', 0, none⟩) (n + 1) cap) (u := .slice a0 n c0) rfl rfl rfl ⟨_, _, _, rfl⟩ HS8.1 (frozen_of hw8) ?_
  refine ⟨.inl (by kernel_rfl), wpAnyS_done (by kernel_rfl) ?_⟩
  simp only [Act.put, List.setIfInBounds_toArray, List.set_cons_zero, List.set_cons_succ]
  have hgw : g' ≠ w.heap.size := fun e => by
    rcases hat with h | h
    · have := OB g' h; omega
    · omega
  have hw5 : (w8.setCell ⟨w.heap.size, 0, none⟩ (.slice (some ⟨g', 0, none⟩) (n + 1) cap)).heap[w.heap.size]? = some (.cells #[.slice (some ⟨g', 0, none⟩) (n + 1) cap, .int .i64 (tk : Int)] 65 (0, 0)) := by rw [heap_set_same hw8]; rfl
  have C85 : Chg (fun b => b = w.heap.size) w8 (w8.setCell ⟨w.heap.size, 0, none⟩ (.slice (some ⟨g', 0, none⟩) (n + 1) cap)) := (Chg.refl (fun b => b = w.heap.size) _).setCell (p := ⟨w.heap.size, 0, none⟩) (.inl rfl) _
  have C15 : Chg (fun b => b = w.heap.size ∨ (Value.slice a0 n c0).ownBlock = some b) W1 (w8.setCell ⟨w.heap.size, 0, none⟩ (.slice (some ⟨g', 0, none⟩) (n + 1) cap)) := ((CA.mono fun _ h => h.elim).trans (C8.mono fun _ h => .inr h)).trans (C85.mono fun _ h => .inl h)
  have P5 : PV Bs (w8.setCell ⟨w.heap.size, 0, none⟩ (.slice (some ⟨g', 0, none⟩) (n + 1) cap)) (.slice (some ⟨g', 0, none⟩) (n + 1) cap) (xs ++ [acc p]) := by
    have h1 : PV Bs w8 (.slice (some ⟨g', 0, none⟩) (n + 1) cap) (xs ++ [acc p]) := by
      unfold PV
      rw [List.length_append, Hn.out, List.map_append]
      exact hown
    exact h1.chg C85 (fun g hg e => by
      have e2 : g' = g := by simpa [Value.ownBlock] using hg
      omega)
  have nS2 : ∀ b, b ≠ w.heap.size → (w.heap.size ≤ b ∨ b < Bs) → ¬ (b = w.heap.size ∨ (Value.slice a0 n c0).ownBlock = some b) := fun b hne hb h => by
    rcases h with h | h
    · exact hne h
    · have := OB b h; omega
  have HAT : Hid (g' ≠ w.heap.size + 2 ∧ ((Value.slice a0 n c0).ownBlock = some g' ∨ w.heap.size ≤ g')) := by
    rcases hat with h | h
    · have := OB g' h
      exact ⟨by omega, .inl h⟩
    · exact ⟨by omega, .inr (by omega)⟩
  generalize w8.setCell ⟨w.heap.size, 0, none⟩ (.slice (some ⟨g', 0, none⟩) (n + 1) cap) = W5 at *
  have f0 := e0
  have f1 := e1
  have f2 := e2
  have f3 := e3
  have f4 := e4
  have f5 := e5
  have f6 := e6
  have f7 := e7
  have f8 := e8
  have f9 := e9
  clear e0 e1 e2 e3 e4 e5 e6 e7 e8 e9
  clear nS
  have nS := nS2
  have e0 : W5.cell? ⟨w.heap.size + 1, 0, none⟩ = some (.int .i64 (p : Int)) := kch C15 f0 (nS _ (by omega) (by omega))
  have e1 : W5.cell? ⟨w.heap.size + 1, 1, none⟩ = some (.int .i64 m.kd) := kch C15 f1 (nS _ (by omega) (by omega))
  have e2 : W5.cell? ⟨w.heap.size + 1, 2, none⟩ = some (.int .i64 m.a) := kch C15 f2 (nS _ (by omega) (by omega))
  have e3 : W5.cell? ⟨w.heap.size + 1, 3, none⟩ = some (.bool true) := kch C15 f3 (nS _ (by omega) (by omega))
  have e4 : W5.cell? ⟨w.heap.size + 1, 4, none⟩ = some (.slice (some ⟨b1, o1, none⟩) N c1) := kch C15 f4 (nS _ (by omega) (by omega))
  have e5 : W5.cell? ⟨w.heap.size + 1, 5, none⟩ = some (.slice (some ⟨b2, o2, none⟩) N c2) := kch C15 f5 (nS _ (by omega) (by omega))
  have e6 : W5.cell? ⟨w.heap.size + 1, 6, none⟩ = some (.slice (some ⟨b3, o3, none⟩) N c3) := kch C15 f6 (nS _ (by omega) (by omega))
  have e7 : W5.cell? ⟨w.heap.size + 1, 7, none⟩ = some (.slice (some ⟨b4, o4, none⟩) N c4) := kch C15 f7 (nS _ (by omega) (by omega))
  have e8 : W5.cell? ⟨w.heap.size + 1, 8, none⟩ = some (.slice a5 m.pipe.length c5) := kch C15 f8 (nS _ (by omega) (by omega))
  have e9 : W5.cell? ⟨w.heap.size + 1, 9, none⟩ = some (.slice a6 m.pipe2.length c6) := kch C15 f9 (nS _ (by omega) (by omega))
  have v0 : W5.cell? ⟨w.heap.size, 0, none⟩ = some (.slice (some ⟨g', 0, none⟩) (n + 1) cap) := by rw [cell_of hw5]; rfl
  have v1 : W5.cell? ⟨w.heap.size, 1, none⟩ = some (.int .i64 (tk : Int)) := by rw [cell_of hw5]; rfl
  have t1 := HM1.out.st p hp
  rw [H2.out.1] at t1
  have t4 := HM1.out.acc p hp
  rw [H2.out.2] at t4
  have t1 : W5.cell? ⟨b1, o1 + p, none⟩ = some (.int .i64 0) := kch C15 t1 (nS _ (by have := HLT.out.1; omega) (.inr HLT.out.1))
  have t4 : W5.cell? ⟨b4, o4 + p, none⟩ = some (.int .i64 (acc p)) := kch C15 t4 (nS _ (by have := HLT.out.2; omega) (.inr HLT.out.2))
  have q5 : W5.cell? ⟨ab, ao + p, none⟩ = some (.int .i64 (acc p)) := kch C15 q1 (nS _ (by omega) (.inr hab))
  have HR5 : Hid (Boxed (w.heap.size + 2) 2 W5) := HRB.out.chg C15 (nS _ (by omega) (by omega))
  have HP5 : Hid (PV Bs W5 (.slice (some ⟨g', 0, none⟩) (n + 1) cap) (xs ++ [acc p])) := P5
  have HC5 : Hid (Chg (fun b => b = w.heap.size ∨ (Value.slice a0 n c0).ownBlock = some b) W1 W5) := C15
  have HOB : Hid (∀ g, (Value.slice a0 n c0).ownBlock = some g → Bs ≤ g ∧ g < w.heap.size) := OB
  clear nS nS2 P5 C15 C85 hw5 hgw hw8 HS8 C8 hown hgrow hat hlt hi hz0 hz1 hz2 hsz OWN HNB HS2 CA HS OB w0 w1 q1 f0 f1 f2 f3 f4 f5 f6 f7 f8 f9 ls ls0 ls1
  have q1 := q5
  have hac : (acc p == acc p) = true := by simp
  clear q5 hge
  go_wp2_with fail
  have HS6 : Chg (fun b => b = w.heap.size + 2) W5 W5.drew := (Chg.refl _ _).drew
  have n1 : b1 ≠ w.heap.size + 2 := by have := HLT.out.1; omega
  have n4 : b4 ≠ w.heap.size + 2 := by have := HLT.out.2; omega
  have n5 : ab ≠ w.heap.size + 2 := by omega
  refine wp_region_S (fun W => Chg (fun b => b = w.heap.size + 2) W5 W) [0, 1, 2, 3, 4, 5, 6, 7, 8, 9, 10, 11, 12, 13, 14, 15, 16, 17, 18, 19, 20, 21, 23] (by kernel_rfl) ?_
  refine wpAnyS_take 0 (Value.agg #[.slice (some ⟨g', 0, none⟩) (n + 1) cap, .int .i64 (tk : Int)]) rfl (by kernel_rfl) (by kernel_rfl) (by kernel_rfl) (by kernel_rfl) (fun _ _ _ h => h) (by rfl) HS6 (fun _ h => run_load65 rfl rfl (rg65 (kcr h v0 (by omega)) (kcr h v1 (by omega)))) ?_
  simp only [Act.put, List.setIfInBounds_toArray, List.set_cons_zero, List.set_cons_succ]
  refine wpAnyS_take 1 (Value.pointer (some ⟨w.heap.size + 1, 4, none⟩)) rfl (by kernel_rfl) (by kernel_rfl) (by kernel_rfl) (by kernel_rfl) (fun _ _ _ h => h) (by rfl) HS6 (fun _ _ => by kernel_rfl) ?_
  simp only [Act.put, List.setIfInBounds_toArray, List.set_cons_zero, List.set_cons_succ]
  refine wpAnyS_take 2 (Value.slice (some ⟨b1, o1, none⟩) N c1) rfl (by kernel_rfl) (by kernel_rfl) (by kernel_rfl) (by kernel_rfl) (fun _ _ _ h => h) (by rfl) HS6 (fun _ h => run_load23 rfl rfl (kcr h e4 (by omega))) ?_
  simp only [Act.put, List.setIfInBounds_toArray, List.set_cons_zero, List.set_cons_succ]
  refine wpAnyS_take 3 (Value.pointer (some ⟨w.heap.size + 1, 0, none⟩)) rfl (by kernel_rfl) (by kernel_rfl) (by kernel_rfl) (by kernel_rfl) (fun _ _ _ h => h) (by rfl) HS6 (fun _ _ => by kernel_rfl) ?_
  simp only [Act.put, List.setIfInBounds_toArray, List.set_cons_zero, List.set_cons_succ]
  refine wpAnyS_take 4 (Value.int .i64 (p : Int)) rfl (by kernel_rfl) (by kernel_rfl) (by kernel_rfl) (by kernel_rfl) (fun _ _ _ h => h) (by rfl) HS6 (fun _ h => run_load3 rfl rfl (kcr h e0 (by omega))) ?_
  simp only [Act.put, List.setIfInBounds_toArray, List.set_cons_zero, List.set_cons_succ]
  refine wpAnyS_take 5 (Value.pointer (some ⟨b1, o1 + p, none⟩)) rfl (by kernel_rfl) (by kernel_rfl) (by kernel_rfl) (by kernel_rfl) (fun _ _ _ h => h) (by rfl) HS6 (fun _ _ => run_index23 rfl rfl rfl hp) ?_
  simp only [Act.put, List.setIfInBounds_toArray, List.set_cons_zero, List.set_cons_succ]
  refine wpAnyS_take 6 (Value.int .i64 0) rfl (by kernel_rfl) (by kernel_rfl) (by kernel_rfl) (by kernel_rfl) (fun _ _ _ h => h) (by rfl) HS6 (fun _ h => run_load3 rfl rfl (kcr h t1 n1)) ?_
  simp only [Act.put, List.setIfInBounds_toArray, List.set_cons_zero, List.set_cons_succ]
  refine wpAnyS_take 7 (Value.bool true) rfl (by kernel_rfl) (by kernel_rfl) (by kernel_rfl) (by kernel_rfl) (fun _ _ _ h => h) (by rfl) HS6 (fun _ _ => run_eql3 rfl rfl rfl rfl) ?_
  simp only [Act.put, List.setIfInBounds_toArray, List.set_cons_zero, List.set_cons_succ]
  refine wpAnyS_take 8 (Value.bool true) rfl (by kernel_rfl) (by kernel_rfl) (by kernel_rfl) (by kernel_rfl) (fun _ _ _ h => h) (by rfl) HS6 (fun _ _ => rfl) ?_
  simp only [Act.put, List.setIfInBounds_toArray, List.set_cons_zero, List.set_cons_succ]
  refine wpAnyS_take 9 (Value.pointer (some ⟨w.heap.size + 1, 7, none⟩)) rfl (by kernel_rfl) (by kernel_rfl) (by kernel_rfl) (by kernel_rfl) (fun _ _ _ h => h) (by rfl) HS6 (fun _ _ => by kernel_rfl) ?_
  simp only [Act.put, List.setIfInBounds_toArray, List.set_cons_zero, List.set_cons_succ]
  refine wpAnyS_take 10 (Value.slice (some ⟨b4, o4, none⟩) N c4) rfl (by kernel_rfl) (by kernel_rfl) (by kernel_rfl) (by kernel_rfl) (fun _ _ _ h => h) (by rfl) HS6 (fun _ h => run_load23 rfl rfl (kcr h e7 (by omega))) ?_
  simp only [Act.put, List.setIfInBounds_toArray, List.set_cons_zero, List.set_cons_succ]
  refine wpAnyS_take 11 (Value.pointer (some ⟨w.heap.size + 1, 0, none⟩)) rfl (by kernel_rfl) (by kernel_rfl) (by kernel_rfl) (by kernel_rfl) (fun _ _ _ h => h) (by rfl) HS6 (fun _ _ => by kernel_rfl) ?_
  simp only [Act.put, List.setIfInBounds_toArray, List.set_cons_zero, List.set_cons_succ]
  refine wpAnyS_take 12 (Value.int .i64 (p : Int)) rfl (by kernel_rfl) (by kernel_rfl) (by kernel_rfl) (by kernel_rfl) (fun _ _ _ h => h) (by rfl) HS6 (fun _ h => run_load3 rfl rfl (kcr h e0 (by omega))) ?_
  simp only [Act.put, List.setIfInBounds_toArray, List.set_cons_zero, List.set_cons_succ]
  refine wpAnyS_take 13 (Value.pointer (some ⟨b4, o4 + p, none⟩)) rfl (by kernel_rfl) (by kernel_rfl) (by kernel_rfl) (by kernel_rfl) (fun _ _ _ h => h) (by rfl) HS6 (fun _ _ => run_index23 rfl rfl rfl hp) ?_
  simp only [Act.put, List.setIfInBounds_toArray, List.set_cons_zero, List.set_cons_succ]
  refine wpAnyS_take 14 (Value.int .i64 (acc p)) rfl (by kernel_rfl) (by kernel_rfl) (by kernel_rfl) (by kernel_rfl) (fun _ _ _ h => h) (by rfl) HS6 (fun _ h => run_load3 rfl rfl (kcr h t4 n4)) ?_
  simp only [Act.put, List.setIfInBounds_toArray, List.set_cons_zero, List.set_cons_succ]
  refine wpAnyS_take 15 (Value.slice (some ⟨ab, ao, none⟩) N ac) rfl (by kernel_rfl) (by kernel_rfl) (by kernel_rfl) (by kernel_rfl) (fun _ _ _ h => h) (by rfl) HS6 (fun _ _ => rfl) ?_
  simp only [Act.put, List.setIfInBounds_toArray, List.set_cons_zero, List.set_cons_succ]
  refine wpAnyS_take 16 (Value.pointer (some ⟨w.heap.size + 1, 0, none⟩)) rfl (by kernel_rfl) (by kernel_rfl) (by kernel_rfl) (by kernel_rfl) (fun _ _ _ h => h) (by rfl) HS6 (fun _ _ => by kernel_rfl) ?_
  simp only [Act.put, List.setIfInBounds_toArray, List.set_cons_zero, List.set_cons_succ]
  refine wpAnyS_take 17 (Value.int .i64 (p : Int)) rfl (by kernel_rfl) (by kernel_rfl) (by kernel_rfl) (by kernel_rfl) (fun _ _ _ h => h) (by rfl) HS6 (fun _ h => run_load3 rfl rfl (kcr h e0 (by omega))) ?_
  simp only [Act.put, List.setIfInBounds_toArray, List.set_cons_zero, List.set_cons_succ]
  refine wpAnyS_take 18 (Value.pointer (some ⟨ab, ao + p, none⟩)) rfl (by kernel_rfl) (by kernel_rfl) (by kernel_rfl) (by kernel_rfl) (fun _ _ _ h => h) (by rfl) HS6 (fun _ _ => run_index23 rfl rfl rfl hp) ?_
  simp only [Act.put, List.setIfInBounds_toArray, List.set_cons_zero, List.set_cons_succ]
  refine wpAnyS_take 19 (Value.int .i64 (acc p)) rfl (by kernel_rfl) (by kernel_rfl) (by kernel_rfl) (by kernel_rfl) (fun _ _ _ h => h) (by rfl) HS6 (fun _ h => run_load3 rfl rfl (kcr h q1 n5)) ?_
  simp only [Act.put, List.setIfInBounds_toArray, List.set_cons_zero, List.set_cons_succ]
  refine wpAnyS_take 20 (Value.bool true) rfl (by kernel_rfl) (by kernel_rfl) (by kernel_rfl) (by kernel_rfl) (fun _ _ _ h => h) (by rfl) HS6 (fun _ _ => run_eql3 rfl rfl rfl hac) ?_
  simp only [Act.put, List.setIfInBounds_toArray, List.set_cons_zero, List.set_cons_succ]
  refine wpAnyS_take 21 (Value.bool true) rfl (by kernel_rfl) (by kernel_rfl) (by kernel_rfl) (by kernel_rfl) (fun _ _ _ h => h) (by rfl) HS6 (fun _ _ => by kernel_rfl) ?_
  simp only [Act.put, List.setIfInBounds_toArray, List.set_cons_zero, List.set_cons_succ]
  have HR6 : Boxed (w.heap.size + 2) 2 W5.drew := HR5.out
  refine wpAnyS_one 22 rfl (by kernel_rfl) (by rfl) ?_
  refine wp_store_mid 65 _ _ rfl (w.heap.size + 2) 0 #[.slice (some ⟨g', 0, none⟩) (n + 1) cap, .int .i64 (tk : Int)] rfl rfl HR6.there (by kernel_rfl) (by simp [Value.oneCell']) ?_
  have C7 : Chg (fun b => b = w.heap.size + 2) W5 (W5.drew.setCells (w.heap.size + 2) 0 [.slice (some ⟨g', 0, none⟩) (n + 1) cap, .int .i64 (tk : Int)]) := Chg.setCells (S := fun b => b = w.heap.size + 2) (.inl rfl) _ _ _ ((Chg.refl _ _).drew)
  have HS7 := C7
  refine ⟨.inr HS7, ?_⟩
  simp only [Act.put, List.setIfInBounds_toArray, List.set_cons_zero, List.set_cons_succ]
  refine wpAnyS_take 23 (Value.bool true) rfl (by kernel_rfl) (by kernel_rfl) (by kernel_rfl) (by kernel_rfl) (fun _ _ _ h => h) (by rfl) HS7 (fun _ _ => rfl) ?_
  simp only [Act.put, List.setIfInBounds_toArray, List.set_cons_zero, List.set_cons_succ]
  refine wpAnyS_done (by kernel_rfl) ?_
  have RG : (W5.drew.setCells (w.heap.size + 2) 0 [.slice (some ⟨g', 0, none⟩) (n + 1) cap, .int .i64 (tk : Int)]).rangeAt (w.heap.size + 2) 0 [.slice (some ⟨g', 0, none⟩) (n + 1) cap, .int .i64 (tk : Int)] := World.rangeAt_setCells_same _ _ _ _ HR6.there
  have HG : Hid ((W5.drew.setCells (w.heap.size + 2) 0 [.slice (some ⟨g', 0, none⟩) (n + 1) cap, .int .i64 (tk : Int)]).rangeAt (w.heap.size + 2) 0 [.slice (some ⟨g', 0, none⟩) (n + 1) cap, .int .i64 (tk : Int)]) := RG
  have HC7 : Hid (Chg (fun b => b = w.heap.size + 2) W5 (W5.drew.setCells (w.heap.size + 2) 0 [.slice (some ⟨g', 0, none⟩) (n + 1) cap, .int .i64 (tk : Int)])) := C7
  clear RG C7 HR6 HS6 HS7
  go_wp2_with fail
  refine bodyPost_ret (results_boxS Yapd.results48 rfl rfl HG.out Yapd.underlying65 rfl (by kernel_rfl)) rfl ?_
  refine ⟨_, rfl, HP5.out.chg HC7.out (fun g hg e => ?_), ?_, fun g hg => ?_⟩
  · have e2 : g' = g := by simpa [Value.ownBlock] using hg
    exact HAT.out.1 (e2.trans e)
  · exact ((HC1.out.mono fun _ h => h.elim).overS HC5.out (fun b h => by
      rcases h with h | h
      · exact .inr (by omega)
      · exact .inl h)).overS HC7.out (fun b h => .inr (by omega))
  · have e2 : g' = g := by simpa [Value.ownBlock] using hg
    rw [← e2]; exact HAT.out.2
end Go.Proofs.Ygdapg
