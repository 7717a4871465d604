/- Arrays of 201 truths in memory: laws for the walk. No program in sight. -/
import Derived.Test.YtnbmmfkkjceehaaD0
import Derived.Laws.Rows
import Derived.OneCell
import Derived.Deep.LoopGhost
import Derived.Deep.MidRow
namespace Go.Proofs.Ytnbmmfkkjceehaa
set_option linter.unusedSimpArgs false
set_option linter.unusedVariables false
open Go.RowKit

abbrev SetF := Nat → Bool
def setC (s : SetF) : Array Value := Array.ofFn (n := 201) fun i => Value.bool (s i)
def updF (s : SetF) (k : Nat) (v : Bool) : SetF := fun i => if i = k then v else s i
theorem setC_size (s : SetF) : (setC s).size = 201 := by simp [setC]
theorem setC_get (s : SetF) (k : Nat) (h : k < 201) : (setC s)[k]? = some (.bool (s k)) := by simp [setC, h]
theorem setC_all (s : SetF) : (setC s).all (·.oneCell') = true := by
  rw [Array.all_eq_true]
  intro i hi
  simp [setC, Value.oneCell']
theorem setC_set (s : SetF) (k : Nat) (v : Bool) (h : k < 201) : (setC s).setIfInBounds k (.bool v) = setC (updF s k v) := by
  apply Array.ext
  · simp [setC]
  · intro i h1 h2
    have h3 : i < 201 := by simpa [setC] using h2
    have h4 : i < (setC s).size := by rw [setC_size]; exact h3
    rw [Array.getElem_setIfInBounds h4]
    by_cases e : k = i
    · subst e; simp [setC, updF]
    · have : ¬ i = k := fun x => e x.symm
      rw [if_neg e]
      simp [setC, updF, this]
theorem setC_congr {s t : SetF} (h : ∀ k, k < 201 → s k = t k) : setC s = setC t := by
  apply Array.ext
  · simp [setC]
  · intro i h1 h2
    simp only [setC, Array.getElem_ofFn]
    rw [h i (by simpa [setC] using h1)]

/-- Block B is an array of 201 truths. -/
def SetAt (w : World) (B : Nat) (T : TypeId) (s : SetF) : Prop := w.heap[B]? = some (.cells (setC s) T (0, 0))
theorem SetAt.lt {w : World} {B : Nat} {T : TypeId} {s : SetF} (h : SetAt w B T s) : B < w.heap.size := lt_of_block h
theorem SetAt.cell {w : World} {B : Nat} {T : TypeId} {s : SetF} (h : SetAt w B T s) (k : Nat) (hk : k < 201) : w.cell? ⟨B, k, none⟩ = some (.bool (s k)) := by
  rw [cell_of_row w B k _ T (0, 0) h]; exact setC_get s k hk
theorem SetAt.free {w : World} {B : Nat} {T : TypeId} {s : SetF} (h : SetAt w B T s) (k : Nat) : w.frozen? ⟨B, k, none⟩ = false := frozen_of_row w B k _ T h
theorem SetAt.stored {w : World} {B : Nat} {T : TypeId} {s : SetF} (h : SetAt w B T s) (k : Nat) (hk : k < 201) (v : Bool) : SetAt (w.setCell ⟨B, k, none⟩ (.bool v)) B T (updF s k v) := by
  have := heap_setCell_same w B k _ T (.bool v) h
  rw [setC_set s k v hk] at this
  exact this
theorem SetAt.alloc {w : World} {B : Nat} {T : TypeId} {s : SetF} (h : SetAt w B T s) (o : Obj) : SetAt (w.alloc o) B T s := (Below.heap_alloc w o B h.lt).trans h
theorem SetAt.new (w : World) (T : TypeId) (s : SetF) : SetAt (w.alloc (.cells (setC s) T)) w.heap.size T s := heap_alloc_new w _
theorem SetAt.below {w w' : World} {B N : Nat} {T : TypeId} {s : SetF} (h : SetAt w B T s) (hb : Below N w w') (hN : B < N) : SetAt w' B T s := (hb.block B hN).trans h
theorem SetAt.other {w : World} {B : Nat} {T : TypeId} {s : SetF} (h : SetAt w B T s) (a : Addr) (v : Value) (hne : B ≠ a.block) : SetAt (w.setCell a v) B T s := (heap_setCell_other w a B v hne).trans h
theorem SetAt.row {w : World} {B : Nat} {T : TypeId} {s : SetF} (h : SetAt w B T s) (t : SetF) : SetAt (w.setRow B (setC t)) B T t := setRow_heap w B _ _ T _ h
theorem SetAt.rowOther {w : World} {B B' : Nat} {T : TypeId} {s : SetF} (h : SetAt w B T s) (cs : Array Value) (hne : B' ≠ B) : SetAt (w.setRow B' cs) B T s := (setRow_other w B' B cs (by omega)).trans h
theorem below_setRow {N : Nat} {w0 w : World} (h : Below N w0 w) (B : Nat) (cs : Array Value) (hB : N ≤ B) : Below N w0 (w.setRow B cs) :=
  h.trans ⟨rfl, rfl, rfl, by simp, fun k hk => setRow_other w B k cs (by omega)⟩

section
variable {P : Program} {ops : Array Oper} {rest : List Oper} {o : Oper} {a : Act} {w : World} {Q : Exit → Act → World → Prop}
/-- 'var s set' in a block of its own. -/
theorem wpList_alloc_set (hgd : o.guard = none) (T : TypeId) (ho : o.op = .alloc T) (hz : (P.info? T).map (·.zero) = some (some (.agg (setC fun _ => false))))
    (h : wpList P ops Q rest (a.put o.dst (.pointer (some ⟨w.heap.size, 0, none⟩))) (w.alloc (.cells (setC fun _ => false) T))) : wpList P ops Q (o :: rest) a w := by
  refine wpList_plain hgd fun K hK => ?_
  cases hq : P.info? T with
  | none => simp [hq] at hz
  | some i =>
    have hz' : i.zero = some (.agg (setC fun _ => false)) := by simpa [hq] using hz
    have hrun : (Instr.alloc T true (.tuple #[])).run P w = .ok (.pointer (some ⟨w.heap.size, 0, none⟩)) (w.alloc (.cells (setC fun _ => false) T)) := by
      simp [Instr.alloc, zeroValue, typeInfo, hq, hz', newVar, newRow, Value.cells, go_sem]
    unfold Oper.wp execOp
    simp only [ho, Sem.run_bind, hrun, Result.andThen_ok, Sem.run_pure]
    exact hK _ _ h
theorem wpList_load_set (hgd : o.guard = none) (T : TypeId) (x : Operand) (ho : o.op = .load T x) (B : Nat) (s : SetF) (hx : a.eval x = .pointer (some ⟨B, 0, none⟩)) (T' : TypeId) (hg : SetAt w B T' s)
    (e : TypeId) (hu : P.underlying T = some (.array 201 e)) (hi : (P.info? T).map (·.size) = some 201)
    (h : wpList P ops Q rest (a.put o.dst (.agg (setC s))) w) : wpList P ops Q (o :: rest) a w :=
  wpList_load_row hgd T x ho B hx T' (setC s) (0, 0) _ hg hu rfl (by rw [setC_size]; exact hi) h
theorem wpList_store_set (hgd : o.guard = none) (T : TypeId) (x y : Operand) (ho : o.op = .store T x y) (B : Nat) (s t : SetF) (hx : a.eval x = .pointer (some ⟨B, 0, none⟩)) (hy : a.eval y = .agg (setC t)) (T' : TypeId) (hg : SetAt w B T' s)
    (hi : (P.info? T).map (·.size) = some 201)
    (h : wpList P ops Q rest (a.put o.dst undef) (w.setRow B (setC t))) : wpList P ops Q (o :: rest) a w :=
  wpList_store_row hgd T x y ho B (setC t) hx hy T' (setC s) hg (by rw [setC_size]; exact hi) (by simp [setC_size]) (setC_all t) h
end
/-- The cells of an array of truths, wherever it lies. -/
def SetIn (w : World) (b o : Nat) (s : SetF) : Prop := w.rangeAt b o (setC s).toList
theorem setC_list_get (s : SetF) (k : Nat) (h : k < 201) : (setC s).toList[k]? = some (.bool (s k)) := by
  rw [Array.getElem?_toList]; exact setC_get s k h
theorem setC_list_len (s : SetF) : (setC s).toList.length = 201 := by rw [Array.length_toList, setC_size]
theorem SetAt.in {w : World} {B : Nat} {T : TypeId} {s : SetF} (h : SetAt w B T s) : SetIn w B 0 s := fun j v hj => by
  have hlt : j < 201 := by have := (List.getElem?_eq_some_iff.1 hj).1; rwa [setC_list_len] at this
  rw [setC_list_get s j hlt] at hj
  rw [Nat.zero_add, h.cell j hlt]; exact hj
theorem SetIn.cell {w : World} {b o : Nat} {s : SetF} (h : SetIn w b o s) (k : Nat) (hk : k < 201) : w.cell? ⟨b, o + k, none⟩ = some (.bool (s k)) := h k _ (setC_list_get s k hk)
theorem SetIn.lt {w : World} {b o : Nat} {s : SetF} (h : SetIn w b o s) : b < w.heap.size := World.block_lt_of_cell? w _ (h.cell 0 (by omega))
theorem SetIn.below {w w' : World} {b o N : Nat} {s : SetF} (h : SetIn w b o s) (hb : Below N w w') (hN : b < N) : SetIn w' b o s := fun j v hj => (hb.cell (p := ⟨b, o + j, none⟩) hN).trans (h j v hj)
theorem SetIn.alloc {w : World} {b o : Nat} {s : SetF} (h : SetIn w b o s) (x : Obj) : SetIn (w.alloc x) b o s := fun j v hj => (World.cell?_alloc_lt w x _ h.lt).trans (h j v hj)
theorem below_setCells {N : Nat} {w0 : World} (B : Nat) (hB : N ≤ B) : ∀ (vs : List Value) (o : Nat) (w : World), Below N w0 w → Below N w0 (w.setCells B o vs)
  | [], _, _, h => h
  | v :: r, o, w, h => below_setCells B hB r (o + 1) _ (h.setCell hB v)
theorem size_setCells (B : Nat) : ∀ (vs : List Value) (o : Nat) (w : World), (w.setCells B o vs).heap.size = w.heap.size
  | [], _, _ => rfl
  | v :: r, o, w => (size_setCells B r (o + 1) _).trans (by simp [World.setCell])
theorem rangeAt_below {w w' : World} {b o N : Nat} {cs : List Value} (h : w.rangeAt b o cs) (hb : Below N w w') (hN : b < N) : w'.rangeAt b o cs := fun j v hj => (hb.cell (p := ⟨b, o + j, none⟩) hN).trans (h j v hj)
theorem there_below {w w' : World} {b o n N : Nat} (h : w.there b o n) (hb : Below N w w') (hN : b < N) : w'.there b o n := fun j hj =>
  ⟨by rw [hb.cell (p := ⟨b, o + j, none⟩) hN]; exact (h j hj).1, by rw [hb.frozen (p := ⟨b, o + j, none⟩) hN]; exact (h j hj).2⟩
/-- A call that tells an array of truths. -/
def RetSet (s : SetF) (w : World) (e : Ending) (w' : World) : Prop := e = .returned (.agg (setC s)) ∧ Below w.heap.size w w'
end Go.Proofs.Ytnbmmfkkjceehaa
