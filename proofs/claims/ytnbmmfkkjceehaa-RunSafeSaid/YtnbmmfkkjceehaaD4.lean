/- A row of truths of the call's own. No program in sight. -/
import Derived.Test.YtnbmmfkkjceehaaD1
namespace Go.Proofs.Ytnbmmfkkjceehaa
set_option linter.unusedSimpArgs false
set_option linter.unusedVariables false
open Go.RowKit

def boolC (n : Nat) (s : Nat → Bool) : Array Value := Array.ofFn (n := n) fun i => Value.bool (s i)
theorem boolC_get (n : Nat) (s : SetF) (k : Nat) (h : k < n) : (boolC n s)[k]? = some (.bool (s k)) := by simp [boolC, h]
theorem boolC_set (n : Nat) (s : SetF) (k : Nat) (v : Bool) : (boolC n s).setIfInBounds k (.bool v) = boolC n (updF s k v) := by
  apply Array.ext
  · simp [boolC]
  · intro i h1 h2
    have h3 : i < n := by simpa [boolC] using h2
    have h4 : i < (boolC n s).size := by simpa [boolC] using h3
    rw [Array.getElem_setIfInBounds h4]
    by_cases e : k = i
    · subst e; simp [boolC, updF]
    · have : ¬ i = k := fun x => e x.symm
      rw [if_neg e]
      simp [boolC, updF, this]
def BoolAt (w : World) (B : Nat) (T : TypeId) (n : Nat) (s : SetF) : Prop := w.heap[B]? = some (.cells (boolC n s) T (0, 0))
theorem BoolAt.lt {w : World} {B : Nat} {T : TypeId} {n : Nat} {s : SetF} (h : BoolAt w B T n s) : B < w.heap.size := lt_of_block h
theorem BoolAt.cell {w : World} {B : Nat} {T : TypeId} {n : Nat} {s : SetF} (h : BoolAt w B T n s) (k : Nat) (hk : k < n) : w.cell? ⟨B, k, none⟩ = some (.bool (s k)) := by
  rw [cell_of_row w B k _ T (0, 0) h]; exact boolC_get n s k hk
theorem BoolAt.free {w : World} {B : Nat} {T : TypeId} {n : Nat} {s : SetF} (h : BoolAt w B T n s) (k : Nat) : w.frozen? ⟨B, k, none⟩ = false := frozen_of_row w B k _ T h
theorem BoolAt.stored {w : World} {B : Nat} {T : TypeId} {n : Nat} {s : SetF} (h : BoolAt w B T n s) (k : Nat) (v : Bool) : BoolAt (w.setCell ⟨B, k, none⟩ (.bool v)) B T n (updF s k v) := by
  have := heap_setCell_same w B k _ T (.bool v) h
  rw [boolC_set n s k v] at this
  exact this
theorem BoolAt.alloc {w : World} {B : Nat} {T : TypeId} {n : Nat} {s : SetF} (h : BoolAt w B T n s) (o : Obj) : BoolAt (w.alloc o) B T n s := (Below.heap_alloc w o B h.lt).trans h
theorem BoolAt.below {w w' : World} {B N : Nat} {T : TypeId} {n : Nat} {s : SetF} (h : BoolAt w B T n s) (hb : Below N w w') (hN : B < N) : BoolAt w' B T n s := (hb.block B hN).trans h
theorem BoolAt.grown {w w' : World} {B : Nat} {T : TypeId} {n : Nat} {s : SetF} {row : Option Nat} (h : BoolAt w B T n s) (hg : w.grownBy w' row) (hne : some B ≠ row) : BoolAt w' B T n s := (hg.block B h.lt hne).trans h

/-- make([]bool, n). -/
theorem wpList_make_bools {P : Program} {w : World} {ops : Array Oper} {rest : List Oper} {o : Oper} {a : Act} {Q : Exit → Act → World → Prop}
    (hg : o.guard = none) (l c : Operand) (t : TypeId) (hop : o.op = Op.makeSlice t l c) (e : TypeId) (h1 : P.underlying t = some (.slice e)) (hi : (P.info? e).map (fun i => (i.zero, i.size, i.bytes)) = some (some (.bool false), 1, 1))
    (n : Nat) (L C : Int) (hl : a.eval l = .int .i64 L) (hc : a.eval c = .int .i64 C) (hL : L = (n : Int)) (hC : C = (n : Int)) (b2 : n ≤ 140737488351232)
    (hK : ∀ w', Below w.heap.size w w' → BoolAt w' w.heap.size e n (fun _ => false) → wpList P ops Q rest (a.put o.dst (.slice (some ⟨w.heap.size, 0, none⟩) n n)) w') :
    wpList P ops Q (o :: rest) a w := by
  obtain ⟨i0, hi, hz0, hz1, hz2⟩ := info_parts hi
  refine wpList_make_full w hg l c t hop w.heap.size e i0 (.bool false) 1 h1 hi hz0 hz1 .i64 .i64 L C n hl hc hL hC (by rw [hz2]; omega) (by unfold maxLen; omega) (Nat.le_refl _) ?_
  intro w' hown hgr
  refine hK w' ⟨hgr.os, hgr.tape, hgr.output, hgr.size, fun k hk => hgr.block k hk (by simp)⟩ ?_
  rcases hown.2 with ⟨h, _⟩ | ⟨g, cap, cur, hv, hb, hh, hnc, hcm, hcs, ht⟩
  · simp at h
  · injection hv with h1 h2 h3
    injection h1 with h1
    injection h1 with h1
    subst h1 h3
    refine Eq.trans hh ?_
    have : cur = boolC n (fun _ => false) := by
      apply Array.toList_inj.1
      rw [List.take_of_length_le (by rw [Array.length_toList, hcs]; exact Nat.le_refl _)] at ht
      rw [ht]
      simp only [Value.cells, Nat.mul_one]
      rw [toList_madeCells_one]
      apply List.ext_getElem
      · simp [boolC]
      · intro i h1 h2; simp [boolC]
    rw [this]
end Go.Proofs.Ytnbmmfkkjceehaa
