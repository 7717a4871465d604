/- Laws on single operations over arrays of truths, for regions that draw their order. No program in sight. -/
import Derived.Test.YtnbmmfkkjceehaaD5
import Derived.Deep.RegionHeld3
namespace Go.Proofs.Ytnbmmfkkjceehaa
set_option linter.unusedSimpArgs false
set_option linter.unusedVariables false
open Go.RowKit

section
variable {P : Program} {o : Oper} {a : Act} {w : World} {K : Act → World → Prop} {Q : Exit → Act → World → Prop}
theorem wp_alloc_set (T : TypeId) (ho : o.op = .alloc T) (hz : (P.info? T).map (·.zero) = some (some (.agg (setC fun _ => false))))
    (h : K (a.put o.dst (.pointer (some ⟨w.heap.size, 0, none⟩))) (w.alloc (.cells (setC fun _ => false) T))) : o.wp P a w K Q := by
  cases hq : P.info? T with
  | none => simp [hq] at hz
  | some i =>
    have hz' : i.zero = some (.agg (setC fun _ => false)) := by simpa [hq] using hz
    have hrun : (Instr.alloc T true (.tuple #[])).run P w = .ok (.pointer (some ⟨w.heap.size, 0, none⟩)) (w.alloc (.cells (setC fun _ => false) T)) := by
      simp [Instr.alloc, zeroValue, typeInfo, hq, hz', newVar, newRow, Value.cells, go_sem]
    unfold Oper.wp execOp
    simp only [ho, Sem.run_bind, hrun, Result.andThen_ok, Sem.run_pure]
    exact h
theorem wp_store_set_new (T : TypeId) (x y : Operand) (ho : o.op = .store T x y) (N : Nat) (s : SetF) (hx : a.eval x = .pointer (some ⟨N, 0, none⟩)) (hy : a.eval y = .agg (setC s)) (T' : TypeId) (z : SetF) (hz : SetAt w N T' z) (hi : (P.info? T).map (·.size) = some 201)
    (h : K (a.put o.dst undef) (w.setCells N 0 (setC s).toList)) : o.wp P a w K Q :=
  wp_store_mid T x y ho N 0 (setC s) hx hy (by rw [setC_size]; exact fun j hj => by rw [Nat.zero_add]; exact ⟨by rw [hz.cell j hj]; rfl, hz.free j⟩) (by rw [setC_size]; exact hi) (setC_all s) h
theorem setIn_stored {N : Nat} {T : TypeId} {z : SetF} (hz : SetAt w N T z) (s : SetF) : SetIn (w.setCells N 0 (setC s).toList) N 0 s :=
  World.rangeAt_setCells_same w N 0 _ (by rw [setC_list_len]; exact fun j hj => by rw [Nat.zero_add]; exact ⟨by rw [hz.cell j hj]; rfl, hz.free j⟩)
theorem yieldsIf_neq_sets {ops : Array Oper} {S : World → Prop} (hw : Region.wanted o (yielded ops a.tmps) = true) (T e : TypeId) (x y : Operand) (z : TypeId) (ho : o.op = .binOp .neq T x y z) (s t : SetF) (hx : a.eval x = .agg (setC s)) (hy : a.eval y = .agg (setC t))
    (hg : P.eqGuardType P.depth T = false) (hu : P.underlying T = some (.array 201 e)) (he : P.underlying e = some .bool) (hi : (P.info? e).map (·.size) = some 1) : YieldsIf P ops S o (.bool (!eqSet s t)) a :=
  .inl ⟨hw, fun w hw' => by
    unfold execOp
    simp only [ho, hx, hy, Sem.run_bind, run_eqGuard_agg w .neq T x y _ _ hg, run_neq_sets w T e hu he hi s t, Sem.run_pure, Result.andThen_ok]⟩
theorem yieldsIf_load_set {ops : Array Oper} {S : World → Prop} (hw : Region.wanted o (yielded ops a.tmps) = true) (T : TypeId) (x : Operand) (ho : o.op = .load T x) (b off : Nat) (hx : a.eval x = .pointer (some ⟨b, off, none⟩)) (s : SetF) (hS : ∀ w, S w → SetIn w b off s) (e : TypeId) (hu : P.underlying T = some (.array 201 e)) (hi : (P.info? T).map (·.size) = some 201) : YieldsIf P ops S o (.agg (setC s)) a := by
  have := yieldsIf_load_mid (P := P) (ops := ops) (S := S) (op := o) (a := a) hw T x ho b off hx (setC s).toList _ (fun w h => hS w h) hu rfl (by rw [setC_list_len]; exact hi)
  simpa using this
theorem wanted_step {y : Nat → Option Bool} {R : Prop} (hg : o.guard = none) (h : o.wp P a w K Q) : if Region.wanted o y = true then o.wp P a w K Q else R := by
  have : Region.wanted o y = true := by simp [Region.wanted, hg]
  rw [if_pos this]; exact h
end
section
variable {P : Program} {o : Oper} {a : Act} {w : World} {Q : Exit → Act → World → Prop} {md : Region.Mode} {ops : Array Oper} {S : World → Prop} {fuel : Nat} {listed : Array Bool}
/-- One operation alone may come up, and it stores an array of truths into a new block. -/
theorem wpAnyH_store_set_new (i : Nat) (hr : Region.ready md ops listed = [i]) (ho : ops[i]? = some o) (hg : o.guard = none) (T : TypeId) (x y : Operand) (hop : o.op = .store T x y) (N : Nat) (s : SetF) (hx : a.eval x = .pointer (some ⟨N, 0, none⟩)) (hy : a.eval y = .agg (setC s)) (T' : TypeId) (z : SetF) (hz : SetAt w N T' z) (hi : (P.info? T).map (·.size) = some 201)
    (hS : S (w.setCells N 0 (setC s).toList)) (h : S (w.setCells N 0 (setC s).toList) → wpAnyH P md ops Q S fuel (listed.setIfInBounds i true) (a.put o.dst undef) (w.setCells N 0 (setC s).toList)) : wpAnyH P md ops Q S (fuel + 1) listed a w :=
  wpAnyH_ready hr (by simp) (AllReadyH.cons ho (fun K hK => wanted_step hg (wp_store_set_new T x y hop N s hx hy T' z hz hi (hK.out _ _ hS h))) AllReadyH.nil)
/-- One operation alone may come up, and it makes an array of truths. -/
theorem wpAnyH_alloc_set (i : Nat) (hr : Region.ready md ops listed = [i]) (ho : ops[i]? = some o) (hg : o.guard = none) (T : TypeId) (hop : o.op = .alloc T) (hz : (P.info? T).map (·.zero) = some (some (.agg (setC fun _ => false))))
    (hS : S (w.alloc (.cells (setC fun _ => false) T))) (h : S (w.alloc (.cells (setC fun _ => false) T)) → wpAnyH P md ops Q S fuel (listed.setIfInBounds i true) (a.put o.dst (.pointer (some ⟨w.heap.size, 0, none⟩))) (w.alloc (.cells (setC fun _ => false) T))) : wpAnyH P md ops Q S (fuel + 1) listed a w :=
  wpAnyH_ready hr (by simp) (AllReadyH.cons ho (fun K hK => wanted_step hg (wp_alloc_set T hop hz (hK.out _ _ hS h))) AllReadyH.nil)
end
end Go.Proofs.Ytnbmmfkkjceehaa
