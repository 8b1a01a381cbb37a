/-
  taken, WALKED.
-/
import Derived.Test.YgdapgG2
set_option linter.unusedSimpArgs false
set_option linter.unusedVariables false
namespace Go.Proofs.Ygdapg
open Go.RowKit

set_option maxRecDepth 100000 in
set_option maxHeartbeats 2000000 in
theorem taken_empty (w : World) (N : Nat) (hN : N ≤ 8) (m : Mo) (g i b1 o1 c1 b2 o2 c2 b3 o3 c3 b4 o4 c4 : Nat) (a5 : Option Addr) (c5 : Nat) (a6 : Option Addr) (c6 : Nat) (HMV : Hid (MV w N m g i b1 o1 c1 b2 o2 c2 b3 o3 c3 b4 o4 c4 a5 c5 a6 c6)) (ab ao ac : Nat) (acc : Nat → Int) (HA : Hid (∀ j, j < N → w.cell? ⟨ab, ao + j, none⟩ = some (.int .i64 (acc j)))) (p : Nat) (hp : p < N) (Bs : Nat) (hBs : Bs ≤ w.heap.size) (a0 : Option Addr) (c0 : Nat) (xs : List Int) (n : Nat) (Hn : Hid (xs.length = n)) (hn : n ≤ 255) (HX : Hid (PV Bs w (.slice a0 n c0) xs)) (tk : Nat) (htk : tk ≤ n) (on : Int) (hf : n ≤ tk) (H2 : Hid (m.st p = 2 ∧ m.wo p = on ∧ m.acc p = acc p)) :
    Calls Yapd.prog 49 #[.agg #[.slice a0 n c0, .int .i64 (tk : Int)], .agg #[.int .i64 (p : Int), .int .i64 m.kd, .int .i64 m.a, .bool true, .slice (some ⟨b1, o1, none⟩) N c1, .slice (some ⟨b2, o2, none⟩) N c2, .slice (some ⟨b3, o3, none⟩) N c3, .slice (some ⟨b4, o4, none⟩) N c4, .slice a5 m.pipe.length c5, .slice a6 m.pipe2.length c6], .slice (some ⟨ab, ao, none⟩) N ac, .int .i64 on] w (WrPost Bs w (.slice a0 n c0) xs tk) := by
  go_enter Yapd.func49, Yapd.ntmps49
  go_wp2_with fail
  have hw0 : (((w.alloc (.cells #[.slice a0 n c0, .int .i64 (tk : Int)] 65)).alloc (.cells #[.int .i64 (p : Int), .int .i64 m.kd, .int .i64 m.a, .bool true, .slice (some ⟨b1, o1, none⟩) N c1, .slice (some ⟨b2, o2, none⟩) N c2, .slice (some ⟨b3, o3, none⟩) N c3, .slice (some ⟨b4, o4, none⟩) N c4, .slice a5 m.pipe.length c5, .slice a6 m.pipe2.length c6] 56)).alloc (.cells #[.slice none 0 0, .int .i64 0] 65)).heap[w.heap.size]? = some (.cells #[.slice a0 n c0, .int .i64 (tk : Int)] 65 (0, 0)) := by
    rw [Below.heap_alloc _ _ _ (by simp; omega)]; exact al2_old _ _ _
  have hm0 : (((w.alloc (.cells #[.slice a0 n c0, .int .i64 (tk : Int)] 65)).alloc (.cells #[.int .i64 (p : Int), .int .i64 m.kd, .int .i64 m.a, .bool true, .slice (some ⟨b1, o1, none⟩) N c1, .slice (some ⟨b2, o2, none⟩) N c2, .slice (some ⟨b3, o3, none⟩) N c3, .slice (some ⟨b4, o4, none⟩) N c4, .slice a5 m.pipe.length c5, .slice a6 m.pipe2.length c6] 56)).alloc (.cells #[.slice none 0 0, .int .i64 0] 65)).heap[w.heap.size + 1]? = some (.cells #[.int .i64 (p : Int), .int .i64 m.kd, .int .i64 m.a, .bool true, .slice (some ⟨b1, o1, none⟩) N c1, .slice (some ⟨b2, o2, none⟩) N c2, .slice (some ⟨b3, o3, none⟩) N c3, .slice (some ⟨b4, o4, none⟩) N c4, .slice a5 m.pipe.length c5, .slice a6 m.pipe2.length c6] 56 (0, 0)) := by
    rw [Below.heap_alloc _ _ _ (by simp)]; exact al2_new _ _ _
  have hr0 : Boxed (w.heap.size + 2) 2 (((w.alloc (.cells #[.slice a0 n c0, .int .i64 (tk : Int)] 65)).alloc (.cells #[.int .i64 (p : Int), .int .i64 m.kd, .int .i64 m.a, .bool true, .slice (some ⟨b1, o1, none⟩) N c1, .slice (some ⟨b2, o2, none⟩) N c2, .slice (some ⟨b3, o3, none⟩) N c3, .slice (some ⟨b4, o4, none⟩) N c4, .slice a5 m.pipe.length c5, .slice a6 m.pipe2.length c6] 56)).alloc (.cells #[.slice none 0 0, .int .i64 0] 65)) := by
    have := Boxed.new ((w.alloc (.cells #[.slice a0 n c0, .int .i64 (tk : Int)] 65)).alloc (.cells #[.int .i64 (p : Int), .int .i64 m.kd, .int .i64 m.a, .bool true, .slice (some ⟨b1, o1, none⟩) N c1, .slice (some ⟨b2, o2, none⟩) N c2, .slice (some ⟨b3, o3, none⟩) N c3, .slice (some ⟨b4, o4, none⟩) N c4, .slice a5 m.pipe.length c5, .slice a6 m.pipe2.length c6] 56)) #[.slice none 0 0, .int .i64 0] 65
    simpa using this
  have C0 : Chg No w (((w.alloc (.cells #[.slice a0 n c0, .int .i64 (tk : Int)] 65)).alloc (.cells #[.int .i64 (p : Int), .int .i64 m.kd, .int .i64 m.a, .bool true, .slice (some ⟨b1, o1, none⟩) N c1, .slice (some ⟨b2, o2, none⟩) N c2, .slice (some ⟨b3, o3, none⟩) N c3, .slice (some ⟨b4, o4, none⟩) N c4, .slice a5 m.pipe.length c5, .slice a6 m.pipe2.length c6] 56)).alloc (.cells #[.slice none 0 0, .int .i64 0] 65)) := (((Chg.refl _ _).alloc _).alloc _).alloc _
  generalize ((w.alloc (.cells #[.slice a0 n c0, .int .i64 (tk : Int)] 65)).alloc (.cells #[.int .i64 (p : Int), .int .i64 m.kd, .int .i64 m.a, .bool true, .slice (some ⟨b1, o1, none⟩) N c1, .slice (some ⟨b2, o2, none⟩) N c2, .slice (some ⟨b3, o3, none⟩) N c3, .slice (some ⟨b4, o4, none⟩) N c4, .slice a5 m.pipe.length c5, .slice a6 m.pipe2.length c6] 56)).alloc (.cells #[.slice none 0 0, .int .i64 0] 65) = W0 at *
  refine (covers_any W0 N hN m g i b1 o1 c1 b2 o2 c2 b3 o3 c3 b4 o4 c4 a5 c5 a6 c6 (HMV.out.chg C0) ab ao ac acc (fun j hj => kch C0 (HA.out j hj)) p hp).mono ?_
  rintro e W1 ⟨rfl, C1⟩
  have hw1 : W1.heap[w.heap.size]? = some (.cells #[.slice a0 n c0, .int .i64 (tk : Int)] 65 (0, 0)) := by rw [C1.block _ (heap_lt hw0) (fun h => h)]; exact hw0
  have hm1 : W1.heap[w.heap.size + 1]? = some (.cells #[.int .i64 (p : Int), .int .i64 m.kd, .int .i64 m.a, .bool true, .slice (some ⟨b1, o1, none⟩) N c1, .slice (some ⟨b2, o2, none⟩) N c2, .slice (some ⟨b3, o3, none⟩) N c3, .slice (some ⟨b4, o4, none⟩) N c4, .slice a5 m.pipe.length c5, .slice a6 m.pipe2.length c6] 56 (0, 0)) := by rw [C1.block _ (heap_lt hm0) (fun h => h)]; exact hm0
  have HRB : Hid (Boxed (w.heap.size + 2) 2 W1) := hr0.chg C1 (fun h => h)
  have HC1 : Hid (Chg No w W1) := C0.trans C1
  have HW1 : Hid (W1.heap[w.heap.size]? = some (.cells #[.slice a0 n c0, .int .i64 (tk : Int)] 65 (0, 0))) := hw1
  have w0 : W1.cell? ⟨w.heap.size, 0, none⟩ = some (.slice a0 n c0) := by rw [cell_of hw1]; rfl
  have w1 : W1.cell? ⟨w.heap.size, 1, none⟩ = some (.int .i64 (tk : Int)) := by rw [cell_of hw1]; rfl
  have e0 : W1.cell? ⟨w.heap.size + 1, 0, none⟩ = some (.int .i64 (p : Int)) := by rw [cell_of hm1]; rfl
  have e1 : W1.cell? ⟨w.heap.size + 1, 1, none⟩ = some (.int .i64 m.kd) := by rw [cell_of hm1]; rfl
  have e2 : W1.cell? ⟨w.heap.size + 1, 2, none⟩ = some (.int .i64 m.a) := by rw [cell_of hm1]; rfl
  have e3 : W1.cell? ⟨w.heap.size + 1, 3, none⟩ = some (.bool true) := by rw [cell_of hm1]; rfl
  have e4 : W1.cell? ⟨w.heap.size + 1, 4, none⟩ = some (.slice (some ⟨b1, o1, none⟩) N c1) := by rw [cell_of hm1]; rfl
  have e5 : W1.cell? ⟨w.heap.size + 1, 5, none⟩ = some (.slice (some ⟨b2, o2, none⟩) N c2) := by rw [cell_of hm1]; rfl
  have e6 : W1.cell? ⟨w.heap.size + 1, 6, none⟩ = some (.slice (some ⟨b3, o3, none⟩) N c3) := by rw [cell_of hm1]; rfl
  have e7 : W1.cell? ⟨w.heap.size + 1, 7, none⟩ = some (.slice (some ⟨b4, o4, none⟩) N c4) := by rw [cell_of hm1]; rfl
  have e8 : W1.cell? ⟨w.heap.size + 1, 8, none⟩ = some (.slice a5 m.pipe.length c5) := by rw [cell_of hm1]; rfl
  have e9 : W1.cell? ⟨w.heap.size + 1, 9, none⟩ = some (.slice a6 m.pipe2.length c6) := by rw [cell_of hm1]; rfl
  have ls := HRB.out.lt
  have ls0 : w.heap.size < W1.heap.size := by omega
  have ls1 : w.heap.size + 1 < W1.heap.size := by omega
  have HM1 : Hid (MV W1 N m g i b1 o1 c1 b2 o2 c2 b3 o3 c3 b4 o4 c4 a5 c5 a6 c6) := HMV.out.chg HC1.out
  have q1 : W1.cell? ⟨ab, ao + p, none⟩ = some (.int .i64 (acc p)) := kch HC1.out (HA.out p hp)
  clear hw0 hm0 hr0 C0 C1 hw1 hm1
  go_wp2_with fail
  have HS : Chg (fun b => b = w.heap.size + 2) W1 W1.drew := (Chg.refl _ _).drew
  refine wp_region_S (fun W => Chg (fun b => b = w.heap.size + 2) W1 W) [0, 1, 2, 3, 6] (by kernel_rfl) ?_
  refine wpAnyS_take 0 (Value.agg #[.slice a0 n c0, .int .i64 (tk : Int)]) rfl (by kernel_rfl) (by kernel_rfl) (by kernel_rfl) (by kernel_rfl) (fun _ _ _ h => h) (by rfl) HS (fun _ h => run_load65 rfl rfl (rg65 (kcr h w0 (by omega)) (kcr h w1 (by omega)))) ?_
  simp only [Act.put, List.setIfInBounds_toArray, List.set_cons_zero, List.set_cons_succ]
  refine wpAnyS_take 1 (Value.agg #[.int .i64 (p : Int), .int .i64 m.kd, .int .i64 m.a, .bool true, .slice (some ⟨b1, o1, none⟩) N c1, .slice (some ⟨b2, o2, none⟩) N c2, .slice (some ⟨b3, o3, none⟩) N c3, .slice (some ⟨b4, o4, none⟩) N c4, .slice a5 m.pipe.length c5, .slice a6 m.pipe2.length c6]) rfl (by kernel_rfl) (by kernel_rfl) (by kernel_rfl) (by kernel_rfl) (fun _ _ _ h => h) (by rfl) HS (fun _ h => run_load56 rfl rfl (rg56 (kcr h e0 (by omega)) (kcr h e1 (by omega)) (kcr h e2 (by omega)) (kcr h e3 (by omega)) (kcr h e4 (by omega)) (kcr h e5 (by omega)) (kcr h e6 (by omega)) (kcr h e7 (by omega)) (kcr h e8 (by omega)) (kcr h e9 (by omega)))) ?_
  simp only [Act.put, List.setIfInBounds_toArray, List.set_cons_zero, List.set_cons_succ]
  refine wpAnyS_take 2 (Value.slice (some ⟨ab, ao, none⟩) N ac) rfl (by kernel_rfl) (by kernel_rfl) (by kernel_rfl) (by kernel_rfl) (fun _ _ _ h => h) (by rfl) HS (fun _ _ => rfl) ?_
  simp only [Act.put, List.setIfInBounds_toArray, List.set_cons_zero, List.set_cons_succ]
  refine wpAnyS_take 3 (Value.int .i64 on) rfl (by kernel_rfl) (by kernel_rfl) (by kernel_rfl) (by kernel_rfl) (fun _ _ _ h => h) (by rfl) HS (fun _ _ => rfl) ?_
  simp only [Act.put, List.setIfInBounds_toArray, List.set_cons_zero, List.set_cons_succ]
  refine wpAnyS_one 4 rfl (by kernel_rfl) (by rfl) ?_
  refine wp_callF 65 Yapd.func65 rfl (by kernel_rfl) [.agg #[.int .i64 (p : Int), .int .i64 m.kd, .int .i64 m.a, .bool true, .slice (some ⟨b1, o1, none⟩) N c1, .slice (some ⟨b2, o2, none⟩) N c2, .slice (some ⟨b3, o3, none⟩) N c3, .slice (some ⟨b4, o4, none⟩) N c4, .slice a5 m.pipe.length c5, .slice a6 m.pipe2.length c6], .slice (some ⟨ab, ao, none⟩) N ac, .int .i64 on] rfl rfl (fun v w' => v = .bool true ∧ Chg No W1.drew w')
    ((blocked_any W1.drew N hN m g i b1 o1 c1 b2 o2 c2 b3 o3 c3 b4 o4 c4 a5 c5 a6 c6 (HMV.out.chg (HC1.out.drew)) ab ao ac acc (fun j hj => kch (HC1.out.drew) (HA.out j hj)) p hp on H2).mono fun e w' h => ⟨_, h.1, rfl, h.2⟩) ?_
  rintro v W6 ⟨rfl, C6⟩
  have HS6 : Chg (fun b => b = w.heap.size + 2) W1 W6 := HS.trans (C6.mono fun _ h => h.elim)
  have HN6 : Chg No W1 W6 := ((Chg.refl No W1).drew).trans C6
  clear HS C6
  have HS := HS6
  clear HS6
  refine ⟨.inr HS, ?_⟩
  simp only [Act.put, List.setIfInBounds_toArray, List.set_cons_zero, List.set_cons_succ]
  have HR6 : Boxed (w.heap.size + 2) 2 W6 := HRB.out.chg HN6 (fun h => h)
  refine wpAnyS_one 5 rfl (by kernel_rfl) (by rfl) ?_
  refine wp_store_mid 65 _ _ rfl (w.heap.size + 2) 0 #[.slice a0 n c0, .int .i64 (tk : Int)] rfl rfl HR6.there (by kernel_rfl) (by simp [Value.oneCell']) ?_
  have C7 : Chg (fun b => b = w.heap.size + 2) W6 (W6.setCells (w.heap.size + 2) 0 [.slice a0 n c0, .int .i64 (tk : Int)]) := Chg.setCells (S := fun b => b = w.heap.size + 2) (.inl rfl) _ _ _ (Chg.refl _ _)
  have HS7 := HS.trans C7
  clear HS
  have HS := HS7
  clear HS7
  refine ⟨.inr HS, ?_⟩
  simp only [Act.put, List.setIfInBounds_toArray, List.set_cons_zero, List.set_cons_succ]
  refine wpAnyS_take 6 (Value.bool true) rfl (by kernel_rfl) (by kernel_rfl) (by kernel_rfl) (by kernel_rfl) (fun _ _ _ h => h) (by rfl) HS (fun _ _ => rfl) ?_
  simp only [Act.put, List.setIfInBounds_toArray, List.set_cons_zero, List.set_cons_succ]
  refine wpAnyS_done (by kernel_rfl) ?_
  have RG : (W6.setCells (w.heap.size + 2) 0 [.slice a0 n c0, .int .i64 (tk : Int)]).rangeAt (w.heap.size + 2) 0 [.slice a0 n c0, .int .i64 (tk : Int)] := World.rangeAt_setCells_same _ _ _ _ HR6.there
  have HG : Hid ((W6.setCells (w.heap.size + 2) 0 [.slice a0 n c0, .int .i64 (tk : Int)]).rangeAt (w.heap.size + 2) 0 [.slice a0 n c0, .int .i64 (tk : Int)]) := RG
  have HC9 : Hid (Chg No w (W6.setCells (w.heap.size + 2) 0 [.slice a0 n c0, .int .i64 (tk : Int)])) := (HC1.out.trans HN6).over C7 (fun b h => by omega)
  clear RG C7 HR6 HS HN6
  go_wp2_with fail
  refine bodyPost_ret (results_boxS Yapd.results49 rfl rfl HG.out Yapd.underlying65 rfl (by kernel_rfl)) rfl ?_
  exact ⟨_, rfl, HX.out.chg HC9.out (fun _ _ h => h), HC9.out.mono (fun _ h => h.elim), fun g hg => .inl hg⟩

set_option maxRecDepth 100000 in
set_option maxHeartbeats 4000000 in
theorem taken_some (w : World) (N : Nat) (hN : N ≤ 8) (m : Mo) (g i b1 o1 c1 b2 o2 c2 b3 o3 c3 b4 o4 c4 : Nat) (a5 : Option Addr) (c5 : Nat) (a6 : Option Addr) (c6 : Nat) (HMV : Hid (MV w N m g i b1 o1 c1 b2 o2 c2 b3 o3 c3 b4 o4 c4 a5 c5 a6 c6)) (ab ao ac : Nat) (acc : Nat → Int) (HA : Hid (∀ j, j < N → w.cell? ⟨ab, ao + j, none⟩ = some (.int .i64 (acc j)))) (p : Nat) (hp : p < N) (Bs : Nat) (hBs : Bs ≤ w.heap.size) (a0 : Option Addr) (c0 : Nat) (xs : List Int) (n : Nat) (Hn : Hid (xs.length = n)) (hn : n ≤ 255) (HX : Hid (PV Bs w (.slice a0 n c0) xs)) (tk : Nat) (htk : tk ≤ n) (on : Int) (hf : tk < n) (hab : ab < w.heap.size) (x : Int) (Hx : Hid (lf xs tk = x)) (H2 : Hid (m.st p = 0 ∧ m.acc p = wrap64 (acc p + x))) :
    Calls Yapd.prog 49 #[.agg #[.slice a0 n c0, .int .i64 (tk : Int)], .agg #[.int .i64 (p : Int), .int .i64 m.kd, .int .i64 m.a, .bool true, .slice (some ⟨b1, o1, none⟩) N c1, .slice (some ⟨b2, o2, none⟩) N c2, .slice (some ⟨b3, o3, none⟩) N c3, .slice (some ⟨b4, o4, none⟩) N c4, .slice a5 m.pipe.length c5, .slice a6 m.pipe2.length c6], .slice (some ⟨ab, ao, none⟩) N ac, .int .i64 on] w (WrPost Bs w (.slice a0 n c0) xs (tk + 1)) := by
  obtain ⟨vb, vo, rfl, hval⟩ := HX.out.ints (by rw [Hn.out]; omega)
  have hv := hval tk (by rw [Hn.out]; exact hf)
  rw [Hx.out] at hv
  clear hval
  have HLT : Hid (b1 < w.heap.size ∧ b4 < w.heap.size ∧ vb < w.heap.size) := ⟨cell_lt (HMV.out.st p hp), cell_lt (HMV.out.acc p hp), cell_lt hv⟩
  go_enter Yapd.func49, Yapd.ntmps49
  go_wp2_with fail
  have hw0 : (((w.alloc (.cells #[.slice (some ⟨vb, vo, none⟩) n c0, .int .i64 (tk : Int)] 65)).alloc (.cells #[.int .i64 (p : Int), .int .i64 m.kd, .int .i64 m.a, .bool true, .slice (some ⟨b1, o1, none⟩) N c1, .slice (some ⟨b2, o2, none⟩) N c2, .slice (some ⟨b3, o3, none⟩) N c3, .slice (some ⟨b4, o4, none⟩) N c4, .slice a5 m.pipe.length c5, .slice a6 m.pipe2.length c6] 56)).alloc (.cells #[.slice none 0 0, .int .i64 0] 65)).heap[w.heap.size]? = some (.cells #[.slice (some ⟨vb, vo, none⟩) n c0, .int .i64 (tk : Int)] 65 (0, 0)) := by
    rw [Below.heap_alloc _ _ _ (by simp; omega)]; exact al2_old _ _ _
  have hm0 : (((w.alloc (.cells #[.slice (some ⟨vb, vo, none⟩) n c0, .int .i64 (tk : Int)] 65)).alloc (.cells #[.int .i64 (p : Int), .int .i64 m.kd, .int .i64 m.a, .bool true, .slice (some ⟨b1, o1, none⟩) N c1, .slice (some ⟨b2, o2, none⟩) N c2, .slice (some ⟨b3, o3, none⟩) N c3, .slice (some ⟨b4, o4, none⟩) N c4, .slice a5 m.pipe.length c5, .slice a6 m.pipe2.length c6] 56)).alloc (.cells #[.slice none 0 0, .int .i64 0] 65)).heap[w.heap.size + 1]? = some (.cells #[.int .i64 (p : Int), .int .i64 m.kd, .int .i64 m.a, .bool true, .slice (some ⟨b1, o1, none⟩) N c1, .slice (some ⟨b2, o2, none⟩) N c2, .slice (some ⟨b3, o3, none⟩) N c3, .slice (some ⟨b4, o4, none⟩) N c4, .slice a5 m.pipe.length c5, .slice a6 m.pipe2.length c6] 56 (0, 0)) := by
    rw [Below.heap_alloc _ _ _ (by simp)]; exact al2_new _ _ _
  have hr0 : Boxed (w.heap.size + 2) 2 (((w.alloc (.cells #[.slice (some ⟨vb, vo, none⟩) n c0, .int .i64 (tk : Int)] 65)).alloc (.cells #[.int .i64 (p : Int), .int .i64 m.kd, .int .i64 m.a, .bool true, .slice (some ⟨b1, o1, none⟩) N c1, .slice (some ⟨b2, o2, none⟩) N c2, .slice (some ⟨b3, o3, none⟩) N c3, .slice (some ⟨b4, o4, none⟩) N c4, .slice a5 m.pipe.length c5, .slice a6 m.pipe2.length c6] 56)).alloc (.cells #[.slice none 0 0, .int .i64 0] 65)) := by
    have := Boxed.new ((w.alloc (.cells #[.slice (some ⟨vb, vo, none⟩) n c0, .int .i64 (tk : Int)] 65)).alloc (.cells #[.int .i64 (p : Int), .int .i64 m.kd, .int .i64 m.a, .bool true, .slice (some ⟨b1, o1, none⟩) N c1, .slice (some ⟨b2, o2, none⟩) N c2, .slice (some ⟨b3, o3, none⟩) N c3, .slice (some ⟨b4, o4, none⟩) N c4, .slice a5 m.pipe.length c5, .slice a6 m.pipe2.length c6] 56)) #[.slice none 0 0, .int .i64 0] 65
    simpa using this
  have C0 : Chg No w (((w.alloc (.cells #[.slice (some ⟨vb, vo, none⟩) n c0, .int .i64 (tk : Int)] 65)).alloc (.cells #[.int .i64 (p : Int), .int .i64 m.kd, .int .i64 m.a, .bool true, .slice (some ⟨b1, o1, none⟩) N c1, .slice (some ⟨b2, o2, none⟩) N c2, .slice (some ⟨b3, o3, none⟩) N c3, .slice (some ⟨b4, o4, none⟩) N c4, .slice a5 m.pipe.length c5, .slice a6 m.pipe2.length c6] 56)).alloc (.cells #[.slice none 0 0, .int .i64 0] 65)) := (((Chg.refl _ _).alloc _).alloc _).alloc _
  generalize ((w.alloc (.cells #[.slice (some ⟨vb, vo, none⟩) n c0, .int .i64 (tk : Int)] 65)).alloc (.cells #[.int .i64 (p : Int), .int .i64 m.kd, .int .i64 m.a, .bool true, .slice (some ⟨b1, o1, none⟩) N c1, .slice (some ⟨b2, o2, none⟩) N c2, .slice (some ⟨b3, o3, none⟩) N c3, .slice (some ⟨b4, o4, none⟩) N c4, .slice a5 m.pipe.length c5, .slice a6 m.pipe2.length c6] 56)).alloc (.cells #[.slice none 0 0, .int .i64 0] 65) = W0 at *
  refine (covers_any W0 N hN m g i b1 o1 c1 b2 o2 c2 b3 o3 c3 b4 o4 c4 a5 c5 a6 c6 (HMV.out.chg C0) ab ao ac acc (fun j hj => kch C0 (HA.out j hj)) p hp).mono ?_
  rintro e W1 ⟨rfl, C1⟩
  have hw1 : W1.heap[w.heap.size]? = some (.cells #[.slice (some ⟨vb, vo, none⟩) n c0, .int .i64 (tk : Int)] 65 (0, 0)) := by rw [C1.block _ (heap_lt hw0) (fun h => h)]; exact hw0
  have hm1 : W1.heap[w.heap.size + 1]? = some (.cells #[.int .i64 (p : Int), .int .i64 m.kd, .int .i64 m.a, .bool true, .slice (some ⟨b1, o1, none⟩) N c1, .slice (some ⟨b2, o2, none⟩) N c2, .slice (some ⟨b3, o3, none⟩) N c3, .slice (some ⟨b4, o4, none⟩) N c4, .slice a5 m.pipe.length c5, .slice a6 m.pipe2.length c6] 56 (0, 0)) := by rw [C1.block _ (heap_lt hm0) (fun h => h)]; exact hm0
  have HRB : Hid (Boxed (w.heap.size + 2) 2 W1) := hr0.chg C1 (fun h => h)
  have HC1 : Hid (Chg No w W1) := C0.trans C1
  have HW1 : Hid (W1.heap[w.heap.size]? = some (.cells #[.slice (some ⟨vb, vo, none⟩) n c0, .int .i64 (tk : Int)] 65 (0, 0))) := hw1
  have w0 : W1.cell? ⟨w.heap.size, 0, none⟩ = some (.slice (some ⟨vb, vo, none⟩) n c0) := by rw [cell_of hw1]; rfl
  have w1 : W1.cell? ⟨w.heap.size, 1, none⟩ = some (.int .i64 (tk : Int)) := by rw [cell_of hw1]; rfl
  have e0 : W1.cell? ⟨w.heap.size + 1, 0, none⟩ = some (.int .i64 (p : Int)) := by rw [cell_of hm1]; rfl
  have e1 : W1.cell? ⟨w.heap.size + 1, 1, none⟩ = some (.int .i64 m.kd) := by rw [cell_of hm1]; rfl
  have e2 : W1.cell? ⟨w.heap.size + 1, 2, none⟩ = some (.int .i64 m.a) := by rw [cell_of hm1]; rfl
  have e3 : W1.cell? ⟨w.heap.size + 1, 3, none⟩ = some (.bool true) := by rw [cell_of hm1]; rfl
  have e4 : W1.cell? ⟨w.heap.size + 1, 4, none⟩ = some (.slice (some ⟨b1, o1, none⟩) N c1) := by rw [cell_of hm1]; rfl
  have e5 : W1.cell? ⟨w.heap.size + 1, 5, none⟩ = some (.slice (some ⟨b2, o2, none⟩) N c2) := by rw [cell_of hm1]; rfl
  have e6 : W1.cell? ⟨w.heap.size + 1, 6, none⟩ = some (.slice (some ⟨b3, o3, none⟩) N c3) := by rw [cell_of hm1]; rfl
  have e7 : W1.cell? ⟨w.heap.size + 1, 7, none⟩ = some (.slice (some ⟨b4, o4, none⟩) N c4) := by rw [cell_of hm1]; rfl
  have e8 : W1.cell? ⟨w.heap.size + 1, 8, none⟩ = some (.slice a5 m.pipe.length c5) := by rw [cell_of hm1]; rfl
  have e9 : W1.cell? ⟨w.heap.size + 1, 9, none⟩ = some (.slice a6 m.pipe2.length c6) := by rw [cell_of hm1]; rfl
  have ls := HRB.out.lt
  have ls0 : w.heap.size < W1.heap.size := by omega
  have ls1 : w.heap.size + 1 < W1.heap.size := by omega
  have HM1 : Hid (MV W1 N m g i b1 o1 c1 b2 o2 c2 b3 o3 c3 b4 o4 c4 a5 c5 a6 c6) := HMV.out.chg HC1.out
  have q1 : W1.cell? ⟨ab, ao + p, none⟩ = some (.int .i64 (acc p)) := kch HC1.out (HA.out p hp)
  clear hw0 hm0 hr0 C0 C1 hw1 hm1
  have hv1 : W1.cell? ⟨vb, vo + tk, none⟩ = some (.int .i64 x) := kch HC1.out hv
  have zf : W1.frozen? ⟨w.heap.size, 1, none⟩ = false := frozen_of HW1.out
  go_wp2_with fail
  have hw5 : (W1.setCell ⟨w.heap.size, 1, none⟩ (.int .i64 ((tk : Int) + 1))).heap[w.heap.size]? = some (.cells #[.slice (some ⟨vb, vo, none⟩) n c0, .int .i64 ((tk : Int) + 1)] 65 (0, 0)) := by rw [heap_set_same HW1.out]; rfl
  have C15 : Chg (fun b => b = w.heap.size) W1 (W1.setCell ⟨w.heap.size, 1, none⟩ (.int .i64 ((tk : Int) + 1))) := (Chg.refl (fun b => b = w.heap.size) _).setCell (p := ⟨w.heap.size, 1, none⟩) (.inl rfl) _
  generalize W1.setCell ⟨w.heap.size, 1, none⟩ (.int .i64 ((tk : Int) + 1)) = W5 at *
  have f0 := e0
  have f1 := e1
  have f2 := e2
  have f3 := e3
  have f4 := e4
  have f5 := e5
  have f6 := e6
  have f7 := e7
  have f8 := e8
  have f9 := e9
  clear e0 e1 e2 e3 e4 e5 e6 e7 e8 e9
  have e0 : W5.cell? ⟨w.heap.size + 1, 0, none⟩ = some (.int .i64 (p : Int)) := kcr C15 f0 (by omega)
  have e1 : W5.cell? ⟨w.heap.size + 1, 1, none⟩ = some (.int .i64 m.kd) := kcr C15 f1 (by omega)
  have e2 : W5.cell? ⟨w.heap.size + 1, 2, none⟩ = some (.int .i64 m.a) := kcr C15 f2 (by omega)
  have e3 : W5.cell? ⟨w.heap.size + 1, 3, none⟩ = some (.bool true) := kcr C15 f3 (by omega)
  have e4 : W5.cell? ⟨w.heap.size + 1, 4, none⟩ = some (.slice (some ⟨b1, o1, none⟩) N c1) := kcr C15 f4 (by omega)
  have e5 : W5.cell? ⟨w.heap.size + 1, 5, none⟩ = some (.slice (some ⟨b2, o2, none⟩) N c2) := kcr C15 f5 (by omega)
  have e6 : W5.cell? ⟨w.heap.size + 1, 6, none⟩ = some (.slice (some ⟨b3, o3, none⟩) N c3) := kcr C15 f6 (by omega)
  have e7 : W5.cell? ⟨w.heap.size + 1, 7, none⟩ = some (.slice (some ⟨b4, o4, none⟩) N c4) := kcr C15 f7 (by omega)
  have e8 : W5.cell? ⟨w.heap.size + 1, 8, none⟩ = some (.slice a5 m.pipe.length c5) := kcr C15 f8 (by omega)
  have e9 : W5.cell? ⟨w.heap.size + 1, 9, none⟩ = some (.slice a6 m.pipe2.length c6) := kcr C15 f9 (by omega)
  have v0 : W5.cell? ⟨w.heap.size, 0, none⟩ = some (.slice (some ⟨vb, vo, none⟩) n c0) := by rw [cell_of hw5]; rfl
  have v1 : W5.cell? ⟨w.heap.size, 1, none⟩ = some (.int .i64 ((tk : Int) + 1)) := by rw [cell_of hw5]; rfl
  have t1 := HM1.out.st p hp
  rw [H2.out.1] at t1
  have t4 := HM1.out.acc p hp
  rw [H2.out.2] at t4
  have t1 : W5.cell? ⟨b1, o1 + p, none⟩ = some (.int .i64 0) := kcr C15 t1 (by have := HLT.out.1; omega)
  have t4 : W5.cell? ⟨b4, o4 + p, none⟩ = some (.int .i64 (wrap64 (acc p + x))) := kcr C15 t4 (by have := HLT.out.2.1; omega)
  have q5 : W5.cell? ⟨ab, ao + p, none⟩ = some (.int .i64 (acc p)) := kcr C15 q1 (by omega)
  have HR5 : Hid (Boxed (w.heap.size + 2) 2 W5) := HRB.out.chg C15 (by omega)
  have HC5 : Hid (Chg (fun b => b = w.heap.size) W1 W5) := C15
  clear C15 hw5 hv hv1 zf w0 w1 q1 f0 f1 f2 f3 f4 f5 f6 f7 f8 f9 ls ls0 ls1
  have q1 := q5
  have hac : (wrap64 (acc p + x) == wrap64 (acc p + x)) = true := by simp
  clear q5
  have HS6 : Chg (fun b => b = w.heap.size + 2) W5 W5.drew := (Chg.refl _ _).drew
  have n1 : b1 ≠ w.heap.size + 2 := by have := HLT.out.1; omega
  have n4 : b4 ≠ w.heap.size + 2 := by have := HLT.out.2.1; omega
  have n5 : ab ≠ w.heap.size + 2 := by omega
  refine wp_region_S (fun W => Chg (fun b => b = w.heap.size + 2) W5 W) [0, 1, 2, 3, 4, 5, 6, 7, 8, 9, 10, 11, 12, 13, 14, 15, 16, 17, 18, 19, 20, 21, 22, 23, 25] (by kernel_rfl) ?_
  refine wpAnyS_take 0 (Value.agg #[.slice (some ⟨vb, vo, none⟩) n c0, .int .i64 ((tk : Int) + 1)]) rfl (by kernel_rfl) (by kernel_rfl) (by kernel_rfl) (by kernel_rfl) (fun _ _ _ h => h) (by rfl) HS6 (fun _ h => run_load65 rfl rfl (rg65 (kcr h v0 (by omega)) (kcr h v1 (by omega)))) ?_
  simp only [Act.put, List.setIfInBounds_toArray, List.set_cons_zero, List.set_cons_succ]
  refine wpAnyS_take 1 (Value.pointer (some ⟨w.heap.size + 1, 4, none⟩)) rfl (by kernel_rfl) (by kernel_rfl) (by kernel_rfl) (by kernel_rfl) (fun _ _ _ h => h) (by rfl) HS6 (fun _ _ => by kernel_rfl) ?_
  simp only [Act.put, List.setIfInBounds_toArray, List.set_cons_zero, List.set_cons_succ]
  refine wpAnyS_take 2 (Value.slice (some ⟨b1, o1, none⟩) N c1) rfl (by kernel_rfl) (by kernel_rfl) (by kernel_rfl) (by kernel_rfl) (fun _ _ _ h => h) (by rfl) HS6 (fun _ h => run_load23 rfl rfl (kcr h e4 (by omega))) ?_
  simp only [Act.put, List.setIfInBounds_toArray, List.set_cons_zero, List.set_cons_succ]
  refine wpAnyS_take 3 (Value.pointer (some ⟨w.heap.size + 1, 0, none⟩)) rfl (by kernel_rfl) (by kernel_rfl) (by kernel_rfl) (by kernel_rfl) (fun _ _ _ h => h) (by rfl) HS6 (fun _ _ => by kernel_rfl) ?_
  simp only [Act.put, List.setIfInBounds_toArray, List.set_cons_zero, List.set_cons_succ]
  refine wpAnyS_take 4 (Value.int .i64 (p : Int)) rfl (by kernel_rfl) (by kernel_rfl) (by kernel_rfl) (by kernel_rfl) (fun _ _ _ h => h) (by rfl) HS6 (fun _ h => run_load3 rfl rfl (kcr h e0 (by omega))) ?_
  simp only [Act.put, List.setIfInBounds_toArray, List.set_cons_zero, List.set_cons_succ]
  refine wpAnyS_take 5 (Value.pointer (some ⟨b1, o1 + p, none⟩)) rfl (by kernel_rfl) (by kernel_rfl) (by kernel_rfl) (by kernel_rfl) (fun _ _ _ h => h) (by rfl) HS6 (fun _ _ => run_index23 rfl rfl rfl hp) ?_
  simp only [Act.put, List.setIfInBounds_toArray, List.set_cons_zero, List.set_cons_succ]
  refine wpAnyS_take 6 (Value.int .i64 0) rfl (by kernel_rfl) (by kernel_rfl) (by kernel_rfl) (by kernel_rfl) (fun _ _ _ h => h) (by rfl) HS6 (fun _ h => run_load3 rfl rfl (kcr h t1 n1)) ?_
  simp only [Act.put, List.setIfInBounds_toArray, List.set_cons_zero, List.set_cons_succ]
  refine wpAnyS_take 7 (Value.bool true) rfl (by kernel_rfl) (by kernel_rfl) (by kernel_rfl) (by kernel_rfl) (fun _ _ _ h => h) (by rfl) HS6 (fun _ _ => run_eql3 rfl rfl rfl rfl) ?_
  simp only [Act.put, List.setIfInBounds_toArray, List.set_cons_zero, List.set_cons_succ]
  refine wpAnyS_take 8 (Value.bool true) rfl (by kernel_rfl) (by kernel_rfl) (by kernel_rfl) (by kernel_rfl) (fun _ _ _ h => h) (by rfl) HS6 (fun _ _ => rfl) ?_
  simp only [Act.put, List.setIfInBounds_toArray, List.set_cons_zero, List.set_cons_succ]
  refine wpAnyS_take 9 (Value.pointer (some ⟨w.heap.size + 1, 7, none⟩)) rfl (by kernel_rfl) (by kernel_rfl) (by kernel_rfl) (by kernel_rfl) (fun _ _ _ h => h) (by rfl) HS6 (fun _ _ => by kernel_rfl) ?_
  simp only [Act.put, List.setIfInBounds_toArray, List.set_cons_zero, List.set_cons_succ]
  refine wpAnyS_take 10 (Value.slice (some ⟨b4, o4, none⟩) N c4) rfl (by kernel_rfl) (by kernel_rfl) (by kernel_rfl) (by kernel_rfl) (fun _ _ _ h => h) (by rfl) HS6 (fun _ h => run_load23 rfl rfl (kcr h e7 (by omega))) ?_
  simp only [Act.put, List.setIfInBounds_toArray, List.set_cons_zero, List.set_cons_succ]
  refine wpAnyS_take 11 (Value.pointer (some ⟨w.heap.size + 1, 0, none⟩)) rfl (by kernel_rfl) (by kernel_rfl) (by kernel_rfl) (by kernel_rfl) (fun _ _ _ h => h) (by rfl) HS6 (fun _ _ => by kernel_rfl) ?_
  simp only [Act.put, List.setIfInBounds_toArray, List.set_cons_zero, List.set_cons_succ]
  refine wpAnyS_take 12 (Value.int .i64 (p : Int)) rfl (by kernel_rfl) (by kernel_rfl) (by kernel_rfl) (by kernel_rfl) (fun _ _ _ h => h) (by rfl) HS6 (fun _ h => run_load3 rfl rfl (kcr h e0 (by omega))) ?_
  simp only [Act.put, List.setIfInBounds_toArray, List.set_cons_zero, List.set_cons_succ]
  refine wpAnyS_take 13 (Value.pointer (some ⟨b4, o4 + p, none⟩)) rfl (by kernel_rfl) (by kernel_rfl) (by kernel_rfl) (by kernel_rfl) (fun _ _ _ h => h) (by rfl) HS6 (fun _ _ => run_index23 rfl rfl rfl hp) ?_
  simp only [Act.put, List.setIfInBounds_toArray, List.set_cons_zero, List.set_cons_succ]
  refine wpAnyS_take 14 (Value.int .i64 (wrap64 (acc p + x))) rfl (by kernel_rfl) (by kernel_rfl) (by kernel_rfl) (by kernel_rfl) (fun _ _ _ h => h) (by rfl) HS6 (fun _ h => run_load3 rfl rfl (kcr h t4 n4)) ?_
  simp only [Act.put, List.setIfInBounds_toArray, List.set_cons_zero, List.set_cons_succ]
  refine wpAnyS_take 15 (Value.slice (some ⟨ab, ao, none⟩) N ac) rfl (by kernel_rfl) (by kernel_rfl) (by kernel_rfl) (by kernel_rfl) (fun _ _ _ h => h) (by rfl) HS6 (fun _ _ => rfl) ?_
  simp only [Act.put, List.setIfInBounds_toArray, List.set_cons_zero, List.set_cons_succ]
  refine wpAnyS_take 16 (Value.pointer (some ⟨w.heap.size + 1, 0, none⟩)) rfl (by kernel_rfl) (by kernel_rfl) (by kernel_rfl) (by kernel_rfl) (fun _ _ _ h => h) (by rfl) HS6 (fun _ _ => by kernel_rfl) ?_
  simp only [Act.put, List.setIfInBounds_toArray, List.set_cons_zero, List.set_cons_succ]
  refine wpAnyS_take 17 (Value.int .i64 (p : Int)) rfl (by kernel_rfl) (by kernel_rfl) (by kernel_rfl) (by kernel_rfl) (fun _ _ _ h => h) (by rfl) HS6 (fun _ h => run_load3 rfl rfl (kcr h e0 (by omega))) ?_
  simp only [Act.put, List.setIfInBounds_toArray, List.set_cons_zero, List.set_cons_succ]
  refine wpAnyS_take 18 (Value.pointer (some ⟨ab, ao + p, none⟩)) rfl (by kernel_rfl) (by kernel_rfl) (by kernel_rfl) (by kernel_rfl) (fun _ _ _ h => h) (by rfl) HS6 (fun _ _ => run_index23 rfl rfl rfl hp) ?_
  simp only [Act.put, List.setIfInBounds_toArray, List.set_cons_zero, List.set_cons_succ]
  refine wpAnyS_take 19 (Value.int .i64 (acc p)) rfl (by kernel_rfl) (by kernel_rfl) (by kernel_rfl) (by kernel_rfl) (fun _ _ _ h => h) (by rfl) HS6 (fun _ h => run_load3 rfl rfl (kcr h q1 n5)) ?_
  simp only [Act.put, List.setIfInBounds_toArray, List.set_cons_zero, List.set_cons_succ]
  refine wpAnyS_take 20 (Value.int .i64 x) rfl (by kernel_rfl) (by kernel_rfl) (by kernel_rfl) (by kernel_rfl) (fun _ _ _ h => h) (by rfl) HS6 (fun _ _ => rfl) ?_
  simp only [Act.put, List.setIfInBounds_toArray, List.set_cons_zero, List.set_cons_succ]
  refine wpAnyS_take 21 (Value.int .i64 (wrap64 (acc p + x))) rfl (by kernel_rfl) (by kernel_rfl) (by kernel_rfl) (by kernel_rfl) (fun _ _ _ h => h) (by rfl) HS6 (fun _ _ => run_add3 rfl rfl rfl rfl) ?_
  simp only [Act.put, List.setIfInBounds_toArray, List.set_cons_zero, List.set_cons_succ]
  refine wpAnyS_take 22 (Value.bool true) rfl (by kernel_rfl) (by kernel_rfl) (by kernel_rfl) (by kernel_rfl) (fun _ _ _ h => h) (by rfl) HS6 (fun _ _ => run_eql3 rfl rfl rfl hac) ?_
  simp only [Act.put, List.setIfInBounds_toArray, List.set_cons_zero, List.set_cons_succ]
  refine wpAnyS_take 23 (Value.bool true) rfl (by kernel_rfl) (by kernel_rfl) (by kernel_rfl) (by kernel_rfl) (fun _ _ _ h => h) (by rfl) HS6 (fun _ _ => by kernel_rfl) ?_
  simp only [Act.put, List.setIfInBounds_toArray, List.set_cons_zero, List.set_cons_succ]
  have HR6 : Boxed (w.heap.size + 2) 2 W5.drew := HR5.out
  refine wpAnyS_one 24 rfl (by kernel_rfl) (by rfl) ?_
  refine wp_store_mid 65 _ _ rfl (w.heap.size + 2) 0 #[.slice (some ⟨vb, vo, none⟩) n c0, .int .i64 ((tk : Int) + 1)] rfl rfl HR6.there (by kernel_rfl) (by simp [Value.oneCell']) ?_
  have C7 : Chg (fun b => b = w.heap.size + 2) W5 (W5.drew.setCells (w.heap.size + 2) 0 [.slice (some ⟨vb, vo, none⟩) n c0, .int .i64 ((tk : Int) + 1)]) := Chg.setCells (S := fun b => b = w.heap.size + 2) (.inl rfl) _ _ _ ((Chg.refl _ _).drew)
  have HS7 := C7
  refine ⟨.inr HS7, ?_⟩
  simp only [Act.put, List.setIfInBounds_toArray, List.set_cons_zero, List.set_cons_succ]
  refine wpAnyS_take 25 (Value.bool true) rfl (by kernel_rfl) (by kernel_rfl) (by kernel_rfl) (by kernel_rfl) (fun _ _ _ h => h) (by rfl) HS7 (fun _ _ => rfl) ?_
  simp only [Act.put, List.setIfInBounds_toArray, List.set_cons_zero, List.set_cons_succ]
  refine wpAnyS_done (by kernel_rfl) ?_
  have RG : (W5.drew.setCells (w.heap.size + 2) 0 [.slice (some ⟨vb, vo, none⟩) n c0, .int .i64 ((tk : Int) + 1)]).rangeAt (w.heap.size + 2) 0 [.slice (some ⟨vb, vo, none⟩) n c0, .int .i64 ((tk : Int) + 1)] := World.rangeAt_setCells_same _ _ _ _ HR6.there
  have HG : Hid ((W5.drew.setCells (w.heap.size + 2) 0 [.slice (some ⟨vb, vo, none⟩) n c0, .int .i64 ((tk : Int) + 1)]).rangeAt (w.heap.size + 2) 0 [.slice (some ⟨vb, vo, none⟩) n c0, .int .i64 ((tk : Int) + 1)]) := RG
  have HC7 : Hid (Chg (fun b => b = w.heap.size + 2) W5 (W5.drew.setCells (w.heap.size + 2) 0 [.slice (some ⟨vb, vo, none⟩) n c0, .int .i64 ((tk : Int) + 1)])) := C7
  clear RG C7 HR6 HS6 HS7
  go_wp2_with fail
  refine bodyPost_ret (results_boxS Yapd.results49 rfl rfl HG.out Yapd.underlying65 rfl (by kernel_rfl)) rfl ?_
  have CN : Chg No w (W5.drew.setCells (w.heap.size + 2) 0 [.slice (some ⟨vb, vo, none⟩) n c0, .int .i64 ((tk : Int) + 1)]) := (HC1.out.over HC5.out (fun b h => by omega)).over HC7.out (fun b h => by omega)
  exact ⟨_, rfl, HX.out.chg CN (fun _ _ h => h), CN.mono (fun _ h => h.elim), fun g hg => .inl hg⟩
end Go.Proofs.Ygdapg
