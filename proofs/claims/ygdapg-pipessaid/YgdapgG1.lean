/-
  covers, blocked, holds, WALKED.
-/
import Derived.Test.YgdapgJ1
import Derived.BigQuiet
set_option linter.unusedSimpArgs false
set_option linter.unusedVariables false
namespace Go.Proofs.Ygdapg
open Go.RowKit

theorem run_min4p {P : Program} {w : World} (ts : Array TypeId) (t : TypeId) (x : Int) : (Builtin.min_ ts t #[.int .i64 x, .int .i64 x, .int .i64 x, .int .i64 x]).run P w = .ok (.int .i64 x) w := by
  simp [Builtin.min_, Builtin.min2]
theorem kch {S : Nat → Prop} {w w' : World} {b o : Nat} {v : Value} (h : Chg S w w') (e : w.cell? ⟨b, o, none⟩ = some v) (hs : ¬ S b := by exact fun h => h) : w'.cell? ⟨b, o, none⟩ = some v := by
  rw [h.cell (p := ⟨b, o, none⟩) (cell_lt e) hs]; exact e
theorem rg56 {w : World} {b : Nat} {x0 x1 x2 x3 x4 x5 x6 x7 x8 x9 : Value} (h0 : w.cell? ⟨b, 0, none⟩ = some x0) (h1 : w.cell? ⟨b, 1, none⟩ = some x1) (h2 : w.cell? ⟨b, 2, none⟩ = some x2) (h3 : w.cell? ⟨b, 3, none⟩ = some x3) (h4 : w.cell? ⟨b, 4, none⟩ = some x4) (h5 : w.cell? ⟨b, 5, none⟩ = some x5) (h6 : w.cell? ⟨b, 6, none⟩ = some x6) (h7 : w.cell? ⟨b, 7, none⟩ = some x7) (h8 : w.cell? ⟨b, 8, none⟩ = some x8) (h9 : w.cell? ⟨b, 9, none⟩ = some x9) :
    w.rangeAt b 0 [x0, x1, x2, x3, x4, x5, x6, x7, x8, x9] := fun j v hj => by
  have hlt := (List.getElem?_eq_some_iff.1 hj).1
  rw [Nat.zero_add]
  match j, hlt with
  | 0, _ => simp at hj; rw [← hj]; exact h0
  | 1, _ => simp at hj; rw [← hj]; exact h1
  | 2, _ => simp at hj; rw [← hj]; exact h2
  | 3, _ => simp at hj; rw [← hj]; exact h3
  | 4, _ => simp at hj; rw [← hj]; exact h4
  | 5, _ => simp at hj; rw [← hj]; exact h5
  | 6, _ => simp at hj; rw [← hj]; exact h6
  | 7, _ => simp at hj; rw [← hj]; exact h7
  | 8, _ => simp at hj; rw [← hj]; exact h8
  | 9, _ => simp at hj; rw [← hj]; exact h9
theorem run_load56 {o : Oper} {a : Act} {W : World} {x : Operand} {b : Nat} {x0 x1 x2 x3 x4 x5 x6 x7 x8 x9 : Value} (ho : o.op = .load 56 x) (hx : a.eval x = .pointer (some ⟨b, 0, none⟩)) (hc : W.rangeAt b 0 [x0, x1, x2, x3, x4, x5, x6, x7, x8, x9]) :
    (execOp a.eval o).run Yapd.prog W = .ok (.value (.agg #[x0, x1, x2, x3, x4, x5, x6, x7, x8, x9])) W := by
  have h := run_loadVar_mid (P := Yapd.prog) W b 0 56 [x0, x1, x2, x3, x4, x5, x6, x7, x8, x9] _ hc Yapd.underlying56 rfl (by kernel_rfl)
  simp [execOp, ho, hx, Instr.loadAt, Instr.sureAddr, h]

set_option maxRecDepth 100000 in
set_option maxHeartbeats 1000000 in
theorem covers_any (w : World) (N : Nat) (hN : N ≤ 8) (m : Mo) (g i b1 o1 c1 b2 o2 c2 b3 o3 c3 b4 o4 c4 : Nat) (a5 : Option Addr) (c5 : Nat) (a6 : Option Addr) (c6 : Nat) (HMV : Hid (MV w N m g i b1 o1 c1 b2 o2 c2 b3 o3 c3 b4 o4 c4 a5 c5 a6 c6)) (ab ao ac : Nat) (acc : Nat → Int) (HA : Hid (∀ j, j < N → w.cell? ⟨ab, ao + j, none⟩ = some (.int .i64 (acc j)))) (p : Nat) (hp : p < N) :
    Calls Yapd.prog 64 #[.agg #[.int .i64 (p : Int), .int .i64 m.kd, .int .i64 m.a, .bool true, .slice (some ⟨b1, o1, none⟩) N c1, .slice (some ⟨b2, o2, none⟩) N c2, .slice (some ⟨b3, o3, none⟩) N c3, .slice (some ⟨b4, o4, none⟩) N c4, .slice a5 m.pipe.length c5, .slice a6 m.pipe2.length c6], .slice (some ⟨ab, ao, none⟩) N ac] w fun e w' => e = .returned (.bool true) ∧ Chg No w w' := by
  go_enter Yapd.func64, Yapd.ntmps64
  go_wp2_with fail
  rw [run_min4p]
  simp only [Result.andThen_ok]
  go_wp2_with fail
  go_ret
  exact ⟨rfl, (Chg.refl _ _).alloc _⟩

set_option maxRecDepth 100000 in
set_option maxHeartbeats 2000000 in
theorem blocked_any (w : World) (N : Nat) (hN : N ≤ 8) (m : Mo) (g i b1 o1 c1 b2 o2 c2 b3 o3 c3 b4 o4 c4 : Nat) (a5 : Option Addr) (c5 : Nat) (a6 : Option Addr) (c6 : Nat) (HMV : Hid (MV w N m g i b1 o1 c1 b2 o2 c2 b3 o3 c3 b4 o4 c4 a5 c5 a6 c6)) (ab ao ac : Nat) (acc : Nat → Int) (HA : Hid (∀ j, j < N → w.cell? ⟨ab, ao + j, none⟩ = some (.int .i64 (acc j)))) (p : Nat) (hp : p < N) (on : Int) (H2 : Hid (m.st p = 2 ∧ m.wo p = on ∧ m.acc p = acc p)) :
    Calls Yapd.prog 65 #[.agg #[.int .i64 (p : Int), .int .i64 m.kd, .int .i64 m.a, .bool true, .slice (some ⟨b1, o1, none⟩) N c1, .slice (some ⟨b2, o2, none⟩) N c2, .slice (some ⟨b3, o3, none⟩) N c3, .slice (some ⟨b4, o4, none⟩) N c4, .slice a5 m.pipe.length c5, .slice a6 m.pipe2.length c6], .slice (some ⟨ab, ao, none⟩) N ac, .int .i64 on] w fun e w' => e = .returned (.bool true) ∧ Chg No w w' := by
  go_enter Yapd.func65, Yapd.ntmps65
  go_wp2_with fail
  have hb : (w.alloc (.cells #[.int .i64 (p : Int), .int .i64 m.kd, .int .i64 m.a, .bool true, .slice (some ⟨b1, o1, none⟩) N c1, .slice (some ⟨b2, o2, none⟩) N c2, .slice (some ⟨b3, o3, none⟩) N c3, .slice (some ⟨b4, o4, none⟩) N c4, .slice a5 m.pipe.length c5, .slice a6 m.pipe2.length c6] 56)).heap[w.heap.size]? = some (.cells #[.int .i64 (p : Int), .int .i64 m.kd, .int .i64 m.a, .bool true, .slice (some ⟨b1, o1, none⟩) N c1, .slice (some ⟨b2, o2, none⟩) N c2, .slice (some ⟨b3, o3, none⟩) N c3, .slice (some ⟨b4, o4, none⟩) N c4, .slice a5 m.pipe.length c5, .slice a6 m.pipe2.length c6] 56 (0, 0)) := heap_alloc_new' _ _
  have C0 : Chg No w (w.alloc (.cells #[.int .i64 (p : Int), .int .i64 m.kd, .int .i64 m.a, .bool true, .slice (some ⟨b1, o1, none⟩) N c1, .slice (some ⟨b2, o2, none⟩) N c2, .slice (some ⟨b3, o3, none⟩) N c3, .slice (some ⟨b4, o4, none⟩) N c4, .slice a5 m.pipe.length c5, .slice a6 m.pipe2.length c6] 56)) := (Chg.refl _ _).alloc _
  generalize w.alloc (.cells #[.int .i64 (p : Int), .int .i64 m.kd, .int .i64 m.a, .bool true, .slice (some ⟨b1, o1, none⟩) N c1, .slice (some ⟨b2, o2, none⟩) N c2, .slice (some ⟨b3, o3, none⟩) N c3, .slice (some ⟨b4, o4, none⟩) N c4, .slice a5 m.pipe.length c5, .slice a6 m.pipe2.length c6] 56) = W0 at *
  have e0 : W0.cell? ⟨w.heap.size, 0, none⟩ = some (.int .i64 (p : Int)) := by rw [cell_of hb]; rfl
  have e1 : W0.cell? ⟨w.heap.size, 1, none⟩ = some (.int .i64 m.kd) := by rw [cell_of hb]; rfl
  have e2 : W0.cell? ⟨w.heap.size, 2, none⟩ = some (.int .i64 m.a) := by rw [cell_of hb]; rfl
  have e3 : W0.cell? ⟨w.heap.size, 3, none⟩ = some (.bool true) := by rw [cell_of hb]; rfl
  have e4 : W0.cell? ⟨w.heap.size, 4, none⟩ = some (.slice (some ⟨b1, o1, none⟩) N c1) := by rw [cell_of hb]; rfl
  have e5 : W0.cell? ⟨w.heap.size, 5, none⟩ = some (.slice (some ⟨b2, o2, none⟩) N c2) := by rw [cell_of hb]; rfl
  have e6 : W0.cell? ⟨w.heap.size, 6, none⟩ = some (.slice (some ⟨b3, o3, none⟩) N c3) := by rw [cell_of hb]; rfl
  have e7 : W0.cell? ⟨w.heap.size, 7, none⟩ = some (.slice (some ⟨b4, o4, none⟩) N c4) := by rw [cell_of hb]; rfl
  have e8 : W0.cell? ⟨w.heap.size, 8, none⟩ = some (.slice a5 m.pipe.length c5) := by rw [cell_of hb]; rfl
  have e9 : W0.cell? ⟨w.heap.size, 9, none⟩ = some (.slice a6 m.pipe2.length c6) := by rw [cell_of hb]; rfl
  have HM0 : Hid (MV W0 N m g i b1 o1 c1 b2 o2 c2 b3 o3 c3 b4 o4 c4 a5 c5 a6 c6) := HMV.out.chg C0
  have HC0 : Hid (Chg No w W0) := C0
  have q1 : W0.cell? ⟨ab, ao + p, none⟩ = some (.int .i64 (acc p)) := kch C0 (HA.out p hp)
  have t1 := HM0.out.st p hp
  have t2 := HM0.out.wo p hp
  have t4 := HM0.out.acc p hp
  rw [H2.out.1] at t1
  rw [H2.out.2.1] at t2
  rw [H2.out.2.2] at t4
  clear hb C0
  have ho : (on == on) = true := by simp
  have hac : (acc p == acc p) = true := by simp
  have HS : Chg No W0 W0.drew := (Chg.refl _ _).drew
  refine wp_region_S (fun W => Chg No W0 W) [0, 1, 3, 4, 5, 6, 7, 8, 9, 10, 11, 12, 13, 14, 15, 16, 17, 18, 19, 20, 21, 22, 23, 24, 25, 26, 27, 28, 29, 30, 31, 32, 33, 34, 35, 36] (by kernel_rfl) ?_
  refine wpAnyS_take 0 (Value.agg #[.int .i64 (p : Int), .int .i64 m.kd, .int .i64 m.a, .bool true, .slice (some ⟨b1, o1, none⟩) N c1, .slice (some ⟨b2, o2, none⟩) N c2, .slice (some ⟨b3, o3, none⟩) N c3, .slice (some ⟨b4, o4, none⟩) N c4, .slice a5 m.pipe.length c5, .slice a6 m.pipe2.length c6]) rfl (by kernel_rfl) (by kernel_rfl) (by kernel_rfl) (by kernel_rfl) (fun _ _ _ h => h) (by rfl) HS (fun _ h => run_load56 rfl rfl (rg56 (kch h e0) (kch h e1) (kch h e2) (kch h e3) (kch h e4) (kch h e5) (kch h e6) (kch h e7) (kch h e8) (kch h e9))) ?_
  simp only [Act.put, List.setIfInBounds_toArray, List.set_cons_zero, List.set_cons_succ]
  refine wpAnyS_take 1 (Value.slice (some ⟨ab, ao, none⟩) N ac) rfl (by kernel_rfl) (by kernel_rfl) (by kernel_rfl) (by kernel_rfl) (fun _ _ _ h => h) (by rfl) HS (fun _ _ => rfl) ?_
  simp only [Act.put, List.setIfInBounds_toArray, List.set_cons_zero, List.set_cons_succ]
  refine wpAnyS_one 2 rfl (by kernel_rfl) (by rfl) ?_
  refine wp_callF 64 Yapd.func64 rfl (by kernel_rfl) [.agg #[.int .i64 (p : Int), .int .i64 m.kd, .int .i64 m.a, .bool true, .slice (some ⟨b1, o1, none⟩) N c1, .slice (some ⟨b2, o2, none⟩) N c2, .slice (some ⟨b3, o3, none⟩) N c3, .slice (some ⟨b4, o4, none⟩) N c4, .slice a5 m.pipe.length c5, .slice a6 m.pipe2.length c6], .slice (some ⟨ab, ao, none⟩) N ac] rfl rfl (fun v w' => v = .bool true ∧ Chg No W0.drew w')
    ((covers_any W0.drew N hN m g i b1 o1 c1 b2 o2 c2 b3 o3 c3 b4 o4 c4 a5 c5 a6 c6 (HMV.out.chg (HC0.out.drew)) ab ao ac acc (fun j hj => kch (HC0.out.drew) (HA.out j hj)) p hp).mono fun e w' h => ⟨_, h.1, rfl, h.2⟩) ?_
  rintro v w6 ⟨rfl, C6⟩
  have HS6 : Chg No W0 w6 := HS.trans C6
  clear HS C6
  have HS := HS6
  clear HS6
  refine ⟨.inr HS, ?_⟩
  simp only [Act.put, List.setIfInBounds_toArray, List.set_cons_zero, List.set_cons_succ]
  refine wpAnyS_take 3 (Value.bool true) rfl (by kernel_rfl) (by kernel_rfl) (by kernel_rfl) (by kernel_rfl) (fun _ _ _ h => h) (by rfl) HS (fun _ _ => rfl) ?_
  simp only [Act.put, List.setIfInBounds_toArray, List.set_cons_zero, List.set_cons_succ]
  refine wpAnyS_take 4 (Value.pointer (some ⟨w.heap.size, 4, none⟩)) rfl (by kernel_rfl) (by kernel_rfl) (by kernel_rfl) (by kernel_rfl) (fun _ _ _ h => h) (by rfl) HS (fun _ _ => by kernel_rfl) ?_
  simp only [Act.put, List.setIfInBounds_toArray, List.set_cons_zero, List.set_cons_succ]
  refine wpAnyS_take 5 (Value.slice (some ⟨b1, o1, none⟩) N c1) rfl (by kernel_rfl) (by kernel_rfl) (by kernel_rfl) (by kernel_rfl) (fun _ _ _ h => h) (by rfl) HS (fun _ h => run_load23 rfl rfl (kch h e4)) ?_
  simp only [Act.put, List.setIfInBounds_toArray, List.set_cons_zero, List.set_cons_succ]
  refine wpAnyS_take 6 (Value.pointer (some ⟨w.heap.size, 0, none⟩)) rfl (by kernel_rfl) (by kernel_rfl) (by kernel_rfl) (by kernel_rfl) (fun _ _ _ h => h) (by rfl) HS (fun _ _ => by kernel_rfl) ?_
  simp only [Act.put, List.setIfInBounds_toArray, List.set_cons_zero, List.set_cons_succ]
  refine wpAnyS_take 7 (Value.int .i64 (p : Int)) rfl (by kernel_rfl) (by kernel_rfl) (by kernel_rfl) (by kernel_rfl) (fun _ _ _ h => h) (by rfl) HS (fun _ h => run_load3 rfl rfl (kch h e0)) ?_
  simp only [Act.put, List.setIfInBounds_toArray, List.set_cons_zero, List.set_cons_succ]
  refine wpAnyS_take 8 (Value.pointer (some ⟨b1, o1 + p, none⟩)) rfl (by kernel_rfl) (by kernel_rfl) (by kernel_rfl) (by kernel_rfl) (fun _ _ _ h => h) (by rfl) HS (fun _ _ => run_index23 rfl rfl rfl hp) ?_
  simp only [Act.put, List.setIfInBounds_toArray, List.set_cons_zero, List.set_cons_succ]
  refine wpAnyS_take 9 (Value.int .i64 2) rfl (by kernel_rfl) (by kernel_rfl) (by kernel_rfl) (by kernel_rfl) (fun _ _ _ h => h) (by rfl) HS (fun _ h => run_load3 rfl rfl (kch h t1)) ?_
  simp only [Act.put, List.setIfInBounds_toArray, List.set_cons_zero, List.set_cons_succ]
  refine wpAnyS_take 10 (Value.bool true) rfl (by kernel_rfl) (by kernel_rfl) (by kernel_rfl) (by kernel_rfl) (fun _ _ _ h => h) (by rfl) HS (fun _ _ => run_eql3 rfl rfl rfl rfl) ?_
  simp only [Act.put, List.setIfInBounds_toArray, List.set_cons_zero, List.set_cons_succ]
  refine wpAnyS_take 11 (Value.bool true) rfl (by kernel_rfl) (by kernel_rfl) (by kernel_rfl) (by kernel_rfl) (fun _ _ _ h => h) (by rfl) HS (fun _ _ => by kernel_rfl) ?_
  simp only [Act.put, List.setIfInBounds_toArray, List.set_cons_zero, List.set_cons_succ]
  refine wpAnyS_take 12 (Value.bool true) rfl (by kernel_rfl) (by kernel_rfl) (by kernel_rfl) (by kernel_rfl) (fun _ _ _ h => h) (by rfl) HS (fun _ _ => rfl) ?_
  simp only [Act.put, List.setIfInBounds_toArray, List.set_cons_zero, List.set_cons_succ]
  refine wpAnyS_take 13 (Value.pointer (some ⟨w.heap.size, 5, none⟩)) rfl (by kernel_rfl) (by kernel_rfl) (by kernel_rfl) (by kernel_rfl) (fun _ _ _ h => h) (by rfl) HS (fun _ _ => by kernel_rfl) ?_
  simp only [Act.put, List.setIfInBounds_toArray, List.set_cons_zero, List.set_cons_succ]
  refine wpAnyS_take 14 (Value.slice (some ⟨b2, o2, none⟩) N c2) rfl (by kernel_rfl) (by kernel_rfl) (by kernel_rfl) (by kernel_rfl) (fun _ _ _ h => h) (by rfl) HS (fun _ h => run_load23 rfl rfl (kch h e5)) ?_
  simp only [Act.put, List.setIfInBounds_toArray, List.set_cons_zero, List.set_cons_succ]
  refine wpAnyS_take 15 (Value.pointer (some ⟨w.heap.size, 0, none⟩)) rfl (by kernel_rfl) (by kernel_rfl) (by kernel_rfl) (by kernel_rfl) (fun _ _ _ h => h) (by rfl) HS (fun _ _ => by kernel_rfl) ?_
  simp only [Act.put, List.setIfInBounds_toArray, List.set_cons_zero, List.set_cons_succ]
  refine wpAnyS_take 16 (Value.int .i64 (p : Int)) rfl (by kernel_rfl) (by kernel_rfl) (by kernel_rfl) (by kernel_rfl) (fun _ _ _ h => h) (by rfl) HS (fun _ h => run_load3 rfl rfl (kch h e0)) ?_
  simp only [Act.put, List.setIfInBounds_toArray, List.set_cons_zero, List.set_cons_succ]
  refine wpAnyS_take 17 (Value.pointer (some ⟨b2, o2 + p, none⟩)) rfl (by kernel_rfl) (by kernel_rfl) (by kernel_rfl) (by kernel_rfl) (fun _ _ _ h => h) (by rfl) HS (fun _ _ => run_index23 rfl rfl rfl hp) ?_
  simp only [Act.put, List.setIfInBounds_toArray, List.set_cons_zero, List.set_cons_succ]
  refine wpAnyS_take 18 (Value.int .i64 on) rfl (by kernel_rfl) (by kernel_rfl) (by kernel_rfl) (by kernel_rfl) (fun _ _ _ h => h) (by rfl) HS (fun _ h => run_load3 rfl rfl (kch h t2)) ?_
  simp only [Act.put, List.setIfInBounds_toArray, List.set_cons_zero, List.set_cons_succ]
  refine wpAnyS_take 19 (Value.int .i64 on) rfl (by kernel_rfl) (by kernel_rfl) (by kernel_rfl) (by kernel_rfl) (fun _ _ _ h => h) (by rfl) HS (fun _ _ => rfl) ?_
  simp only [Act.put, List.setIfInBounds_toArray, List.set_cons_zero, List.set_cons_succ]
  refine wpAnyS_take 20 (Value.bool true) rfl (by kernel_rfl) (by kernel_rfl) (by kernel_rfl) (by kernel_rfl) (fun _ _ _ h => h) (by rfl) HS (fun _ _ => run_eql3 rfl rfl rfl ho) ?_
  simp only [Act.put, List.setIfInBounds_toArray, List.set_cons_zero, List.set_cons_succ]
  refine wpAnyS_take 21 (Value.bool true) rfl (by kernel_rfl) (by kernel_rfl) (by kernel_rfl) (by kernel_rfl) (fun _ _ _ h => h) (by rfl) HS (fun _ _ => by kernel_rfl) ?_
  simp only [Act.put, List.setIfInBounds_toArray, List.set_cons_zero, List.set_cons_succ]
  refine wpAnyS_take 22 (Value.bool true) rfl (by kernel_rfl) (by kernel_rfl) (by kernel_rfl) (by kernel_rfl) (fun _ _ _ h => h) (by rfl) HS (fun _ _ => rfl) ?_
  simp only [Act.put, List.setIfInBounds_toArray, List.set_cons_zero, List.set_cons_succ]
  refine wpAnyS_take 23 (Value.pointer (some ⟨w.heap.size, 7, none⟩)) rfl (by kernel_rfl) (by kernel_rfl) (by kernel_rfl) (by kernel_rfl) (fun _ _ _ h => h) (by rfl) HS (fun _ _ => by kernel_rfl) ?_
  simp only [Act.put, List.setIfInBounds_toArray, List.set_cons_zero, List.set_cons_succ]
  refine wpAnyS_take 24 (Value.slice (some ⟨b4, o4, none⟩) N c4) rfl (by kernel_rfl) (by kernel_rfl) (by kernel_rfl) (by kernel_rfl) (fun _ _ _ h => h) (by rfl) HS (fun _ h => run_load23 rfl rfl (kch h e7)) ?_
  simp only [Act.put, List.setIfInBounds_toArray, List.set_cons_zero, List.set_cons_succ]
  refine wpAnyS_take 25 (Value.pointer (some ⟨w.heap.size, 0, none⟩)) rfl (by kernel_rfl) (by kernel_rfl) (by kernel_rfl) (by kernel_rfl) (fun _ _ _ h => h) (by rfl) HS (fun _ _ => by kernel_rfl) ?_
  simp only [Act.put, List.setIfInBounds_toArray, List.set_cons_zero, List.set_cons_succ]
  refine wpAnyS_take 26 (Value.int .i64 (p : Int)) rfl (by kernel_rfl) (by kernel_rfl) (by kernel_rfl) (by kernel_rfl) (fun _ _ _ h => h) (by rfl) HS (fun _ h => run_load3 rfl rfl (kch h e0)) ?_
  simp only [Act.put, List.setIfInBounds_toArray, List.set_cons_zero, List.set_cons_succ]
  refine wpAnyS_take 27 (Value.pointer (some ⟨b4, o4 + p, none⟩)) rfl (by kernel_rfl) (by kernel_rfl) (by kernel_rfl) (by kernel_rfl) (fun _ _ _ h => h) (by rfl) HS (fun _ _ => run_index23 rfl rfl rfl hp) ?_
  simp only [Act.put, List.setIfInBounds_toArray, List.set_cons_zero, List.set_cons_succ]
  refine wpAnyS_take 28 (Value.int .i64 (acc p)) rfl (by kernel_rfl) (by kernel_rfl) (by kernel_rfl) (by kernel_rfl) (fun _ _ _ h => h) (by rfl) HS (fun _ h => run_load3 rfl rfl (kch h t4)) ?_
  simp only [Act.put, List.setIfInBounds_toArray, List.set_cons_zero, List.set_cons_succ]
  refine wpAnyS_take 29 (Value.slice (some ⟨ab, ao, none⟩) N ac) rfl (by kernel_rfl) (by kernel_rfl) (by kernel_rfl) (by kernel_rfl) (fun _ _ _ h => h) (by rfl) HS (fun _ _ => rfl) ?_
  simp only [Act.put, List.setIfInBounds_toArray, List.set_cons_zero, List.set_cons_succ]
  refine wpAnyS_take 30 (Value.pointer (some ⟨w.heap.size, 0, none⟩)) rfl (by kernel_rfl) (by kernel_rfl) (by kernel_rfl) (by kernel_rfl) (fun _ _ _ h => h) (by rfl) HS (fun _ _ => by kernel_rfl) ?_
  simp only [Act.put, List.setIfInBounds_toArray, List.set_cons_zero, List.set_cons_succ]
  refine wpAnyS_take 31 (Value.int .i64 (p : Int)) rfl (by kernel_rfl) (by kernel_rfl) (by kernel_rfl) (by kernel_rfl) (fun _ _ _ h => h) (by rfl) HS (fun _ h => run_load3 rfl rfl (kch h e0)) ?_
  simp only [Act.put, List.setIfInBounds_toArray, List.set_cons_zero, List.set_cons_succ]
  refine wpAnyS_take 32 (Value.pointer (some ⟨ab, ao + p, none⟩)) rfl (by kernel_rfl) (by kernel_rfl) (by kernel_rfl) (by kernel_rfl) (fun _ _ _ h => h) (by rfl) HS (fun _ _ => run_index23 rfl rfl rfl hp) ?_
  simp only [Act.put, List.setIfInBounds_toArray, List.set_cons_zero, List.set_cons_succ]
  refine wpAnyS_take 33 (Value.int .i64 (acc p)) rfl (by kernel_rfl) (by kernel_rfl) (by kernel_rfl) (by kernel_rfl) (fun _ _ _ h => h) (by rfl) HS (fun _ h => run_load3 rfl rfl (kch h q1)) ?_
  simp only [Act.put, List.setIfInBounds_toArray, List.set_cons_zero, List.set_cons_succ]
  refine wpAnyS_take 34 (Value.bool true) rfl (by kernel_rfl) (by kernel_rfl) (by kernel_rfl) (by kernel_rfl) (fun _ _ _ h => h) (by rfl) HS (fun _ _ => run_eql3 rfl rfl rfl hac) ?_
  simp only [Act.put, List.setIfInBounds_toArray, List.set_cons_zero, List.set_cons_succ]
  refine wpAnyS_take 35 (Value.bool true) rfl (by kernel_rfl) (by kernel_rfl) (by kernel_rfl) (by kernel_rfl) (fun _ _ _ h => h) (by rfl) HS (fun _ _ => by kernel_rfl) ?_
  simp only [Act.put, List.setIfInBounds_toArray, List.set_cons_zero, List.set_cons_succ]
  refine wpAnyS_take 36 (Value.bool true) rfl (by kernel_rfl) (by kernel_rfl) (by kernel_rfl) (by kernel_rfl) (fun _ _ _ h => h) (by rfl) HS (fun _ _ => rfl) ?_
  simp only [Act.put, List.setIfInBounds_toArray, List.set_cons_zero, List.set_cons_succ]
  refine wpAnyS_done (by kernel_rfl) ?_
  go_wp2_with fail
  go_ret
  exact ⟨rfl, HC0.out.trans HS⟩

/-- A slice of numbers as the list says. -/
def IntsL (w : World) (a : Option Addr) (xs : List Int) : Prop := 0 < xs.length → ∃ b o, a = some ⟨b, o, none⟩ ∧ ∀ j, j < xs.length → w.cell? ⟨b, o + j, none⟩ = some (.int .i64 (lf xs j))

set_option maxRecDepth 100000 in
set_option maxHeartbeats 1000000 in
theorem holds_any (w : World) (a1 : Option Addr) (k1 : Nat) (xs : List Int) (HX : Hid (IntsL w a1 xs)) (n : Nat) (Hn : Hid (xs.length = n)) (hn : n ≤ 256) (tk : Nat) (htk : tk ≤ n) (a2 : Option Addr) (k2 : Nat) (ys : List Int) (HY : Hid (IntsL w a2 ys)) (l : Nat) (Hl : Hid (ys.length = l)) (HL2 : Hid (l = n - tk)) (HE : Hid (∀ j, j < l → lf ys j = lf xs (tk + j))) :
    Calls Yapd.prog 50 #[.agg #[.slice a1 n k1, .int .i64 (tk : Int)], .slice a2 l k2] w fun e w' => e = .returned (.bool true) ∧ Chg No w w' := by
  go_enter Yapd.func50, Yapd.ntmps50
  have hlen : ((l : Int) != (n : Int) - (tk : Int)) = false := by have := HL2.out; simp; omega
  go_wp2_with fail
  have hb : (w.alloc (.cells #[.slice a1 n k1, .int .i64 (tk : Int)] 65)).heap[w.heap.size]? = some (.cells #[.slice a1 n k1, .int .i64 (tk : Int)] 65 (0, 0)) := heap_alloc_new' _ _
  have C0 : Chg No w (w.alloc (.cells #[.slice a1 n k1, .int .i64 (tk : Int)] 65)) := (Chg.refl _ _).alloc _
  generalize w.alloc (.cells #[.slice a1 n k1, .int .i64 (tk : Int)] 65) = W0 at *
  have HB : Hid (W0.heap[w.heap.size]? = some (.cells #[.slice a1 n k1, .int .i64 (tk : Int)] 65 (0, 0))) := hb
  have HC0 : Hid (Chg No w W0) := C0
  try simp only [hlen]
  clear hb C0 hlen
  go_loopw [5] (fun iv wq => ∃ j : Nat, j ≤ l ∧ iv = .int .i64 j ∧ Hid (Chg No W0 wq)) (fun iv _ => l - (intOf iv).toNat)
  case atStart => exact ⟨0, by omega, rfl, Chg.refl _ _⟩
  case round =>
    obtain ⟨j, hj, rfl, HC⟩ := hrel
    have hbx : wr.heap[w.heap.size]? = some (.cells #[.slice a1 n k1, .int .i64 (tk : Int)] 65 (0, 0)) := by
      rw [HC.out.block _ (heap_lt HB.out) (fun h => h)]; exact HB.out
    have x0 : wr.cell? ⟨w.heap.size, 0, none⟩ = some (.slice a1 n k1) := by rw [cell_of hbx]; rfl
    have x1 : wr.cell? ⟨w.heap.size, 1, none⟩ = some (.int .i64 (tk : Int)) := by rw [cell_of hbx]; rfl
    have xl := heap_lt hbx
    clear hbx
    by_cases hjl : j < l
    · have hjn : tk + j < n := by have := HL2.out; omega
      obtain ⟨pb, po, rfl, hx⟩ := HX.out (by rw [Hn.out]; omega)
      obtain ⟨yb, yo, rfl, hy⟩ := HY.out (by rw [Hl.out]; omega)
      have y1 : wr.cell? ⟨yb, yo + j, none⟩ = some (.int .i64 (lf xs (tk + j))) := by
        have := kch (HC0.out.trans HC.out) (hy j (by rw [Hl.out]; exact hjl))
        rw [HE.out j hjl] at this
        exact this
      have z1 : wr.cell? ⟨pb, po + (tk + j), none⟩ = some (.int .i64 (lf xs (tk + j))) := kch (HC0.out.trans HC.out) (hx (tk + j) (by rw [Hn.out]; omega))
      clear hx hy
      generalize lf xs (tk + j) = e at *
      go_wp2_with fail
      go_quiet (fail)
      go_wp2_with fail
      go_roundw
      case rel => exact ⟨j + 1, by omega, by go_num, HC.out.drewN _⟩
      case measure => simp [intOf]; omega
    · go_wp2_with fail
      go_ret
      exact ⟨rfl, HC0.out.trans HC.out⟩
end Go.Proofs.Ygdapg
