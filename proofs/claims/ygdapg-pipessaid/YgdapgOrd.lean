/-
  REGIONS THAT DRAW THEIR ORDER, STEP BY STEP: the loads (T) first, under a condition S on the world; an operation that waits for all of T may break S.
-/
import Derived.Test.YgdapgHeap
import Derived.OrdersHeld
import Derived.Deep.MidRow
set_option linter.unusedSimpArgs false
set_option linter.unusedVariables false
namespace Go.Proofs.Ygdapg
open Go.RowKit

/-- Operation j waits for every one of T. -/
def lateB (md : Region.Mode) (ops : Array Oper) (T : List Nat) (j : Nat) : Bool :=
  match ops[j]? with
  | some o => T.all fun t => o.after.any fun e => Region.binds md e && e.on == t
  | none => false

section
variable {P : Program} {ops : Array Oper} {Q : Exit → Act → World → Prop} {md : Region.Mode} {S : World → Prop} {T : List Nat}

/-- Whatever order is picked, and S holds behind every operation that does not wait for all of T. -/
def wpAnyS (P : Program) (md : Region.Mode) (ops : Array Oper) (Q : Exit → Act → World → Prop) (S : World → Prop) (T : List Nat) : Nat → Array Bool → Act → World → Prop
  | 0, listed, a, w => Region.ready md ops listed = [] ∧ Q .normal a w
  | fuel + 1, listed, a, w =>
    (Region.ready md ops listed = [] → Q .normal a w) ∧
    ∀ i ∈ Region.ready md ops listed, wpOp P ops Q i (fun a' w' => (lateB md ops T i = true ∨ S w') ∧ wpAnyS P md ops Q S T fuel (listed.setIfInBounds i true) a' w') a w

theorem wpAny_of_S : ∀ (fuel : Nat) (listed : Array Bool) (a : Act) (w : World), wpAnyS P md ops Q S T fuel listed a w → wpAny P md ops Q fuel listed a w
  | 0, _, _, _, h => h
  | fuel + 1, _, _, _, h => ⟨h.1, fun i hi => wpOp_mono (fun a' w' h' => wpAny_of_S fuel _ a' w' h'.2) (h.2 i hi)⟩

theorem wpAnyS_first {i : Nat} {oi : Oper} {v : Value} (hi : ops[i]? = some oi) (hT : i ∈ T) (hsel : ∀ (j : Nat) (o : Oper) cs b, ops[j]? = some o → o.op ≠ .select cs b)
    (hQ : ∀ c a w, Q (.panic c) (a.put oi.dst v) w → Q (.panic c) a w) :
    ∀ (fuel : Nat) (listed : Array Bool) (a : Act) (w : World),
      (∀ j oj, ops[j]? = some oj → j ≠ i → listed.getD j true = false → (∀ e ∈ oj.after, Region.binds md e = true → e.on ≠ i) → oi.apart ops oj = true) →
      i ∈ Region.ready md ops listed → YieldsIf P ops S oi v a → S w →
      wpAnyS P md ops Q S T fuel (listed.setIfInBounds i true) (a.put oi.dst v) w → wpAnyS P md ops Q S T (fuel + 1) listed a w := by
  intro fuel
  induction fuel with
  | zero =>
    intro listed a w _ hr hy hS H
    refine ⟨fun h => (by rw [h] at hr; cases hr), fun j hj => ?_⟩
    by_cases hji : j = i
    · subst hji; exact hy.wpOp hi hS ⟨.inr hS, H⟩
    · have := ready_mono hj hji
      rw [H.1] at this
      cases this
  | succ fuel ih =>
    intro listed a w hfree hr hy hS H
    refine ⟨fun h => (by rw [h] at hr; cases hr), fun j hj => ?_⟩
    by_cases hji : j = i
    · subst hji; exact hy.wpOp hi hS ⟨.inr hS, H⟩
    · have h1 := H.2 j (ready_mono hj hji)
      obtain ⟨hjun, oj, hoj, hall⟩ := mem_ready.1 hj
      have hnot : ∀ e ∈ oj.after, Region.binds md e = true → e.on ≠ i := fun e he hb heq => by
        have h1 := hall e he hb
        have h0 := (mem_ready.1 hr).1
        rw [heq] at h1
        rcases Nat.lt_or_ge i listed.size with h' | h'
        · simp [h'] at h0 h1; rw [h0] at h1; cases h1
        · simp [Array.getElem?_eq_none h'] at h1
      have hlate : lateB md ops T j = false := by
        have e0 : lateB md ops T j = T.all fun t => oj.after.any fun e => Region.binds md e && e.on == t := by unfold lateB; rw [hoj]
        rw [e0]
        cases hc : T.all fun t => oj.after.any fun e => Region.binds md e && e.on == t
        · rfl
        · have := List.all_eq_true.1 hc i hT
          obtain ⟨e, he, hb⟩ := Array.any_eq_true'.1 this
          simp only [Bool.and_eq_true, beq_iff_eq] at hb
          exact absurd hb.2 (hnot e he hb.1)
      have h2 := wpOp_putIf hoj (hfree j oj hoj hji hjun hnot) (fun cs b => hsel i oi cs b hi) (fun cs b => hsel j oj cs b hoj) hQ hy h1
      have hfree' : ∀ k ok, ops[k]? = some ok → k ≠ i → (listed.setIfInBounds j true).getD k true = false →
          (∀ e ∈ ok.after, Region.binds md e = true → e.on ≠ i) → oi.apart ops ok = true := fun k ok hk hki hun hno => by
        refine hfree k ok hk hki ?_ hno
        by_cases hjk : j = k
        · subst hjk; exact hjun
        · rw [getD_set_ne true hjk] at hun; exact hun
      refine wpOp_mono (fun a' w' h3 => ?_) h2
      obtain ⟨hy', h4, h5⟩ := h3
      have hS' : S w' := by
        rcases h4 with h4 | h4
        · rw [hlate] at h4; cases h4
        · exact h4
      refine ⟨.inr hS', ih (listed.setIfInBounds j true) a' w' hfree' (ready_mono hr (Ne.symm hji)) hy' hS' ?_⟩
      rw [Array.setIfInBounds_comm _ _ hji]
      exact h5

/-- Begin. -/
theorem wp_region_S {id : Nat} {a : Act} {w : World} (S : World → Prop) (T : List Nat) (hm : P.follows .mixedOrders = true)
    (h : wpAnyS P .any ops Q S T ops.size (Array.replicate ops.size false) a w.drew) : (Code.region id ops true).wp P Q a w :=
  wp_region_any hm (wpAny_of_S _ _ _ _ h)

theorem at_of_drop {i : Nat} {oi : Oper} {rest : List Oper} (h : ops.toList.drop i = oi :: rest) : ops[i]? = some oi := by
  have : (ops.toList.drop i)[0]? = some oi := by rw [h]; rfl
  rw [List.getElem?_drop] at this
  simpa using this

/-- Take operation i first. -/
theorem wpAnyS_take (i : Nat) (v : Value) {oi : Oper} {rest : List Oper} {fuel : Nat} {listed : Array Bool} {a : Act} {w : World} (hi : ops.toList.drop i = oi :: rest) (hT : T.contains i = true)
    (hs : Region.noSelect ops = true) (hf : Region.free md ops listed i = true) (hr : (Region.ready md ops listed).contains i = true)
    (hQ : ∀ c a w, Q (.panic c) (a.put oi.dst v) w → Q (.panic c) a w) (hg : Region.wanted oi (yielded ops a.tmps) = true) (hS : S w) (hy : ∀ w, S w → (execOp a.eval oi).run P w = .ok (.value v) w)
    (h : wpAnyS P md ops Q S T fuel (listed.setIfInBounds i true) (a.put oi.dst v) w) : wpAnyS P md ops Q S T (fuel + 1) listed a w :=
  wpAnyS_first (at_of_drop hi) (by simpa using hT) (Region.noSelect_spec hs) hQ fuel listed a w (Region.free_spec (at_of_drop hi) hf) (by simpa using hr) (.inl ⟨hg, hy⟩) hS h

/-- Operation i is the only one that may come up. -/
theorem wpAnyS_one (i : Nat) {oi : Oper} {rest : List Oper} {fuel : Nat} {listed : Array Bool} {a : Act} {w : World} (hi : ops.toList.drop i = oi :: rest) (hr : Region.ready md ops listed = [i]) (hg : Region.wanted oi (yielded ops a.tmps) = true)
    (h : oi.wp P a w (fun a' w' => (lateB md ops T i = true ∨ S w') ∧ wpAnyS P md ops Q S T fuel (listed.setIfInBounds i true) a' w') Q) : wpAnyS P md ops Q S T (fuel + 1) listed a w := by
  refine ⟨fun e => by rw [hr] at e; simp at e, fun j hj => ?_⟩
  rw [hr] at hj
  obtain rfl : j = i := by simpa using hj
  unfold wpOp
  simp only [at_of_drop hi]
  rw [if_pos hg]
  exact .inl h

theorem wpAnyS_done {listed : Array Bool} {a : Act} {w : World} {fuel : Nat} (hr : Region.ready md ops listed = []) (h : Q .normal a w) : wpAnyS P md ops Q S T fuel listed a w := by
  cases fuel with
  | zero => exact ⟨hr, h⟩
  | succ fuel => exact ⟨fun _ => h, by rw [hr]; simp⟩

/-- A call of a Go function. -/
theorem wp_callF {o : Oper} {a : Act} {w : World} {K : Act → World → Prop} (f : FuncId) {fn : Func} {c : Code} (hf : P.funcs[f]? = some fn) (hb : fn.body = some c) (hname : (fn.name == "runtime.NumGoroutine") = false)
    {args : Array Operand} {tys : Array TypeId} (vs : List Value) (ho : o.op = .call { callee := .value (.func f), args := args, argTypes := tys }) (hv : args.toList.map a.eval = vs)
    (R : Value → World → Prop) (h : Calls P f vs.toArray w fun e w' => ∃ v, e = .returned v ∧ R v w') (hk : ∀ v w', R v w' → K (a.put o.dst v) w') : o.wp P a w K Q := by
  have h1 : fn.name ≠ "runtime.NumGoroutine" := by simpa using hname
  unfold Oper.wp
  have hv' : args.map a.eval = vs.toArray := by
    apply Array.toList_inj.1
    rw [Array.toList_map]; exact hv
  have hr : (execOp a.eval o).run P w = .ok (.enter f vs.toArray) w := by
    simp [execOp, ho, resolve, invoke, hv', Act.eval, Deferred.ofValue, callFunc, hf, h1, hb]
  rw [hr]
  refine Calls.mono h ?_
  rintro e w' ⟨v, rfl, hR⟩
  exact hk v w' hR
/-- An operation that yields a value. -/
theorem wp_val {o : Oper} {a : Act} {w w' : World} {K : Act → World → Prop} (v : Value) (hr : (execOp a.eval o).run P w = .ok (.value v) w') (h : K (a.put o.dst v) w') : o.wp P a w K Q := by
  unfold Oper.wp
  rw [hr]
  exact h

/-- One result that lies in a box: a struct. -/
theorem results_box {fn : Func} {p : Tmp} {ty : TypeId} {tmps : Array Value} {w : World} {rb : Nat} {cells : List Value} {d : TypeDesc} (h : fn.results = #[.cell p ty]) (hp : tmps.getD p undef = .pointer (some ⟨rb, 0, none⟩))
    (hc : w.rangeAt rb 0 cells) (hu : P.underlying ty = some d) (hd : d.isRow = true) (hi : (P.info? ty).map (·.size) = some cells.length) : (results fn tmps).run P w = .ok (.agg cells.toArray) w := by
  simp only [results, h]
  simp [Sem.run_bind, Result.andThen, asAddr] at hp ⊢
  rw [hp]
  simp [run_loadVar_mid w rb 0 ty cells d hc hu hd hi]
end
theorem run_index23 {o : Oper} {a : Act} {W : World} {x y : Operand} {b off n c j : Nat} (ho : o.op = .indexAddr 23 x y) (hx : a.eval x = .slice (some ⟨b, off, none⟩) n c) (hy : a.eval y = .int .i64 (j : Int)) (hj : j < n) :
    (execOp a.eval o).run Yapd.prog W = .ok (.value (.pointer (some ⟨b, off + j, none⟩))) W := by
  have h1 : (0 : Int) ≤ (j : Int) := by omega
  have h2 : (j : Int) < (n : Int) := by omega
  have hs : (Yapd.prog.info? (Yapd.prog.elem 23)).map (·.size) = some 1 := by kernel_rfl
  have hu : Yapd.prog.underlying 23 = some (.slice (Yapd.prog.elem 23)) := by kernel_rfl
  have hsz : (sizeOf (Yapd.prog.elem 23)).run Yapd.prog W = .ok 1 W := by
    cases hq : Yapd.prog.info? (Yapd.prog.elem 23) with
    | none => simp [hq] at hs
    | some i => simp [hq] at hs; simp [sizeOf, typeInfo, hq, hs]
  simp only [execOp, ho, hx, hy, Sem.run_bind, run_indexAt_slice W 23 _ n c .i64 (j : Int) hu, h1, h2, and_self, if_true, hsz, Result.andThen_ok, Sem.run_pure, Int.toNat_natCast, Addr.add_lit, Nat.mul_one]
theorem run_index22 {o : Oper} {a : Act} {W : World} {x y : Operand} {b off n c j : Nat} (ho : o.op = .indexAddr 22 x y) (hx : a.eval x = .slice (some ⟨b, off, none⟩) n c) (hy : a.eval y = .int .i64 (j : Int)) (hj : j < n) :
    (execOp a.eval o).run Yapd.prog W = .ok (.value (.pointer (some ⟨b, off + j, none⟩))) W := by
  have h1 : (0 : Int) ≤ (j : Int) := by omega
  have h2 : (j : Int) < (n : Int) := by omega
  have hs : (Yapd.prog.info? (Yapd.prog.elem 22)).map (·.size) = some 1 := by kernel_rfl
  have hu : Yapd.prog.underlying 22 = some (.slice (Yapd.prog.elem 22)) := by kernel_rfl
  have hsz : (sizeOf (Yapd.prog.elem 22)).run Yapd.prog W = .ok 1 W := by
    cases hq : Yapd.prog.info? (Yapd.prog.elem 22) with
    | none => simp [hq] at hs
    | some i => simp [hq] at hs; simp [sizeOf, typeInfo, hq, hs]
  simp only [execOp, ho, hx, hy, Sem.run_bind, run_indexAt_slice W 22 _ n c .i64 (j : Int) hu, h1, h2, and_self, if_true, hsz, Result.andThen_ok, Sem.run_pure, Int.toNat_natCast, Addr.add_lit, Nat.mul_one]
theorem run_load23 {o : Oper} {a : Act} {W : World} {x : Operand} {ad : Addr} {v : Value} (ho : o.op = .load 23 x) (hx : a.eval x = .pointer (some ad)) (hc : W.cell? ad = some v) :
    (execOp a.eval o).run Yapd.prog W = .ok (.value v) W := by
  simp [execOp, ho, hx, Instr.loadAt, Instr.sureAddr, loadVar, isAgg, run_underlying Yapd.underlying23, load, Sem.run, hc]
theorem run_load3 {o : Oper} {a : Act} {W : World} {x : Operand} {ad : Addr} {v : Value} (ho : o.op = .load 3 x) (hx : a.eval x = .pointer (some ad)) (hc : W.cell? ad = some v) :
    (execOp a.eval o).run Yapd.prog W = .ok (.value v) W := by
  simp [execOp, ho, hx, Instr.loadAt, Instr.sureAddr, loadVar, isAgg, run_underlying Yapd.underlying3, load, Sem.run, hc]
theorem run_load52 {o : Oper} {a : Act} {W : World} {x : Operand} {ad : Addr} {v : Value} (ho : o.op = .load 52 x) (hx : a.eval x = .pointer (some ad)) (hc : W.cell? ad = some v) :
    (execOp a.eval o).run Yapd.prog W = .ok (.value v) W := by
  simp [execOp, ho, hx, Instr.loadAt, Instr.sureAddr, loadVar, isAgg, run_underlying Yapd.underlying52, load, Sem.run, hc]
theorem run_load30 {o : Oper} {a : Act} {W : World} {x : Operand} {ad : Addr} {v : Value} (ho : o.op = .load 30 x) (hx : a.eval x = .pointer (some ad)) (hc : W.cell? ad = some v) :
    (execOp a.eval o).run Yapd.prog W = .ok (.value v) W := by
  simp [execOp, ho, hx, Instr.loadAt, Instr.sureAddr, loadVar, isAgg, run_underlying Yapd.underlying30, load, Sem.run, hc]
theorem run_load4 {o : Oper} {a : Act} {W : World} {x : Operand} {ad : Addr} {v : Value} (ho : o.op = .load 4 x) (hx : a.eval x = .pointer (some ad)) (hc : W.cell? ad = some v) :
    (execOp a.eval o).run Yapd.prog W = .ok (.value v) W := by
  simp [execOp, ho, hx, Instr.loadAt, Instr.sureAddr, loadVar, isAgg, run_underlying Yapd.underlying4, load, Sem.run, hc]
end Go.Proofs.Ygdapg
