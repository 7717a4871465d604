/- Rows of arrays of truths; '!=' of two arrays. No program in sight. -/
import Derived.Test.YtnbmmfkkjceehaaD4
import Derived.ChangeKeysEq
namespace Go.Proofs.Ytnbmmfkkjceehaa
set_option linter.unusedSimpArgs false
set_option linter.unusedVariables false
open Go.RowKit

def eqSet (a b : SetF) : Bool := (List.range 201).all fun k => a k == b k
theorem eqSet_iff (a b : SetF) : eqSet a b = true ↔ ∀ k, k < 201 → a k = b k := by simp [eqSet]

section
variable {P : Program}
theorem run_eqItems_sets (d : Nat) (e : TypeId) (he : P.underlying e = some .bool) (hn : P.cellsOf e = 1) (a b : SetF) (w : World) : ∀ l : List Nat, (∀ k ∈ l, k < 201) →
    (Op.eqItems (d + 1) e (P.cellsOf e) (setC a) (setC b) l).run P w = .ok (l.all fun k => a k == b k) w
  | [], _ => by simp [Op.eqItems, Sem.run_pure]
  | k :: l, h => by
    have hk := h k (by simp)
    have p1 : ∀ s : SetF, (part e (setC s) (k * P.cellsOf e)).run P w = .ok (.bool (s k)) w := fun s => by
      simp [part, isAgg, Sem.run_bind, run_underlying he, hn, setC_get s k hk, go_sem]
    simp only [Op.eqItems, Sem.run_bind, p1, Result.andThen_ok, run_equalIn_bool' w d e _ _ he]
    rw [List.all_cons]
    cases hab : (a k == b k)
    · simp [Sem.run_pure]
    · simp [run_eqItems_sets d e he hn a b w l (fun k hk => h k (by simp [hk]))]
theorem run_neq_sets (w : World) (T e : TypeId) (hu : P.underlying T = some (.array 201 e)) (he : P.underlying e = some .bool) (hi : (P.info? e).map (·.size) = some 1) (a b : SetF) :
    (binOp .neq T (.agg (setC a)) (.agg (setC b))).run P w = .ok (.bool (!eqSet a b)) w := by
  cases hq : P.info? e with
  | none => simp [hq] at hi
  | some i =>
    have hs : i.size = 1 := by simpa [hq] using hi
    have hn : P.cellsOf e = 1 := by simp [Program.cellsOf, hq, hs]
    rw [run_neq_struct, show (10000 : Nat) = (9998 + 1) + 1 from rfl, run_equalIn_array w (9998 + 1) _ _ hu hq, run_eqItems_sets 9998 e he hn a b w (List.range 201) (fun k hk => List.mem_range.1 hk)]
    rfl
end

/-! ### a row of n arrays of truths in block G -/
def updR (r : Nat → SetF) (k : Nat) (s : SetF) : Nat → SetF := fun i => if i = k then s else r i
structure RowIn (w : World) (G n : Nat) (r : Nat → SetF) : Prop where
  get : ∀ k, k < n → SetIn w G (k * 201) (r k)
  there : w.there G 0 (n * 201)
theorem RowIn.move {w w' : World} {G n : Nat} {r : Nat → SetF} (h : RowIn w G n r) (hb : w'.heap[G]? = w.heap[G]?) : RowIn w' G n r :=
  ⟨fun k hk j v hj => (World.cell?_of_block (a := ⟨G, k * 201 + j, none⟩) hb).trans (h.get k hk j v hj), fun j hj => ⟨by rw [World.cell?_of_block (a := ⟨G, 0 + j, none⟩) hb]; exact (h.there j hj).1, by rw [World.frozen?_of_block (a := ⟨G, 0 + j, none⟩) hb]; exact (h.there j hj).2⟩⟩
theorem RowIn.below {w w' : World} {G n N : Nat} {r : Nat → SetF} (h : RowIn w G n r) (hb : Below N w w') (hN : G < N) : RowIn w' G n r := h.move (hb.block G hN)
theorem RowIn.lt {w : World} {G n : Nat} {r : Nat → SetF} (h : RowIn w G n r) (hn : 0 < n) : G < w.heap.size := (h.get 0 hn).lt
theorem RowIn.alloc {w : World} {G n : Nat} {r : Nat → SetF} (h : RowIn w G n r) (hn : 0 < n) (o : Obj) : RowIn (w.alloc o) G n r := h.move (Below.heap_alloc w o G (h.lt hn))
theorem RowIn.thereAt {w : World} {G n k : Nat} {r : Nat → SetF} (h : RowIn w G n r) (hk : k < n) : w.there G (k * 201) 201 := fun j hj => by
  have : k * 201 + j < n * 201 := by
    have := Nat.mul_le_mul_right 201 (show k + 1 ≤ n from hk)
    omega
  have := h.there (k * 201 + j) this
  rwa [Nat.zero_add] at this
theorem RowIn.put {w : World} {G n k : Nat} {r : Nat → SetF} (h : RowIn w G n r) (hk : k < n) (s : SetF) : RowIn (w.setCells G (k * 201) (setC s).toList) G n (updR r k s) := by
  refine ⟨fun i hi => ?_, World.there_setCells h.there _ _ _⟩
  unfold updR SetIn
  by_cases e : i = k
  · subst e
    rw [if_pos rfl]
    exact World.rangeAt_setCells_same w G _ _ (by rw [setC_list_len]; exact h.thereAt hi)
  · rw [if_neg e]
    refine World.rangeAt_setCells_apart (h.get i hi) _ _ _ (.inr ?_)
    rw [setC_list_len, setC_list_len]
    rcases Nat.lt_or_gt_of_ne e with h1 | h1
    · exact .inl (by have := Nat.mul_le_mul_right 201 (show i + 1 ≤ k from h1); omega)
    · exact .inr (by have := Nat.mul_le_mul_right 201 (show k + 1 ≤ i from h1); omega)
theorem RowIn.cell {w : World} {G n k j : Nat} {r : Nat → SetF} (h : RowIn w G n r) (hk : k < n) (hj : j < 201) : w.cell? ⟨G, k * 201 + j, none⟩ = some (.bool (r k j)) := (h.get k hk).cell j hj
theorem RowIn.free {w : World} {G n k j : Nat} {r : Nat → SetF} (h : RowIn w G n r) (hk : k < n) (hj : j < 201) : w.frozen? ⟨G, k * 201 + j, none⟩ = false := (h.thereAt hk j hj).2
theorem RowIn.stored {w : World} {G n k j : Nat} {r : Nat → SetF} (h : RowIn w G n r) (hk : k < n) (hj : j < 201) (v : Bool) : RowIn (w.setCell ⟨G, k * 201 + j, none⟩ (.bool v)) G n (updR r k (updF (r k) j v)) := by
  have ht := World.there_setCells h.there G (k * 201 + j) [.bool v]
  refine ⟨fun i hi m u hm => ?_, ht⟩
  have hm201 : m < 201 := by have := (List.getElem?_eq_some_iff.1 hm).1; rwa [setC_list_len] at this
  rw [setC_list_get _ m hm201] at hm
  cases hm
  unfold updR
  by_cases e : i = k ∧ m = j
  · obtain ⟨rfl, rfl⟩ := e
    rw [World.cell?_setCell_same _ _ _ (h.cell hi hm201)]
    simp [updF]
  · rw [World.cell?_setCell_other _ _ _ _ (fun e2 => e (by
      injection e2 with _ e3 _
      have : i = k := by
        rcases Nat.lt_trichotomy i k with h1 | h1 | h1
        · have := Nat.mul_le_mul_right 201 (show i + 1 ≤ k from h1); omega
        · exact h1
        · have := Nat.mul_le_mul_right 201 (show k + 1 ≤ i from h1); omega
      subst this
      exact ⟨rfl, by omega⟩)), h.cell hi hm201]
    by_cases e2 : i = k
    · have e3 : m ≠ j := fun e3 => e ⟨e2, e3⟩
      simp [e2, updF, e3]
    · simp [e2]
theorem rowIn_congr {w : World} {G n : Nat} {r r' : Nat → SetF} (h : RowIn w G n r) (he : ∀ b, b < n → r b = r' b) : RowIn w G n r' :=
  ⟨fun k hk => by rw [← he k hk]; exact h.get k hk, h.there⟩
/-- make([]set, n). -/
theorem wpList_make_sets {P : Program} {w : World} {ops : Array Oper} {rest : List Oper} {o : Oper} {a : Act} {Q : Exit → Act → World → Prop}
    (hg : o.guard = none) (l c : Operand) (t : TypeId) (hop : o.op = Op.makeSlice t l c) (e : TypeId) (h1 : P.underlying t = some (.slice e)) (hi : (P.info? e).map (fun i => (i.zero, i.size, i.bytes)) = some (some (.agg (setC fun _ => false)), 201, 201))
    (n : Nat) (L C : Int) (hl : a.eval l = .int .i64 L) (hc : a.eval c = .int .i64 C) (hL : L = (n : Int)) (hC : C = (n : Int)) (b2 : n ≤ 100000)
    (hK : ∀ w', Below w.heap.size w w' → RowIn w' w.heap.size n (fun _ _ => false) → wpList P ops Q rest (a.put o.dst (.slice (some ⟨w.heap.size, 0, none⟩) n n)) w') :
    wpList P ops Q (o :: rest) a w := by
  obtain ⟨i0, hi, hz0, hz1, hz2⟩ := info_parts hi
  refine wpList_make_full w hg l c t hop w.heap.size e i0 (.agg (setC fun _ => false)) 201 h1 hi hz0 hz1 .i64 .i64 L C n hl hc hL hC (by rw [hz2]; omega) (by unfold maxLen; omega) (Nat.le_refl _) ?_
  intro w' hown hgr
  refine hK w' ⟨hgr.os, hgr.tape, hgr.output, hgr.size, fun k hk => hgr.block k hk (by simp)⟩ ⟨fun k hk j v hj => ?_, fun j hj => ⟨?_, ?_⟩⟩
  · have hlt : j < 201 := by have := (List.getElem?_eq_some_iff.1 hj).1; rwa [setC_list_len] at this
    rw [setC_list_get _ j hlt] at hj
    cases hj
    have hkj : k * 201 + j < n * 201 := by
      have := Nat.mul_le_mul_right 201 (show k + 1 ≤ n from hk)
      omega
    rw [hown.cellAt _ hkj]
    simp only [madeCells, Value.cells, setC_size]
    simp [hkj, show (k * 201 + j) % 201 = j by omega]
    rw [getElem!_pos _ j (by rw [setC_size]; exact hlt)]
    simp [setC]
  · rw [Nat.zero_add, hown.cellAt _ hj]
    simp [madeCells, hj]
  · rw [Nat.zero_add]; exact hown.frozenAt j

section
variable {P : Program} {ops : Array Oper} {rest : List Oper} {o : Oper} {a : Act} {w : World} {Q : Exit → Act → World → Prop}
theorem wpList_store_set_mid (hgd : o.guard = none) (T : TypeId) (x y : Operand) (ho : o.op = .store T x y) (G off : Nat) (s : SetF) (hx : a.eval x = .pointer (some ⟨G, off, none⟩)) (hy : a.eval y = .agg (setC s)) (ht : w.there G off 201)
    (hi : (P.info? T).map (·.size) = some 201) (h : wpList P ops Q rest (a.put o.dst undef) (w.setCells G off (setC s).toList)) : wpList P ops Q (o :: rest) a w :=
  wpList_store_mid hgd T x y ho G off (setC s) hx hy (by rw [setC_size]; exact ht) (by rw [setC_size]; exact hi) (setC_all s) h
theorem wpList_load_set_mid (hgd : o.guard = none) (T : TypeId) (x : Operand) (ho : o.op = .load T x) (G off : Nat) (s : SetF) (hx : a.eval x = .pointer (some ⟨G, off, none⟩)) (hs : SetIn w G off s) (e : TypeId) (hu : P.underlying T = some (.array 201 e))
    (hi : (P.info? T).map (·.size) = some 201) (h : wpList P ops Q rest (a.put o.dst (.agg (setC s))) w) : wpList P ops Q (o :: rest) a w :=
  wpList_load_mid hgd T x ho G off hx (setC s).toList _ hs hu rfl (by rw [setC_list_len]; exact hi) (by simpa using h)
theorem wpList_build_set (hgd : o.guard = none) (T e : TypeId) (ho : o.op = .build T #[]) (hz : (P.info? T).map (·.zero) = some (some (.agg (setC fun _ => false)))) (hu : P.underlying T = some (.array 201 e)) (he : (P.info? e).map (·.size) = some 1)
    (h : wpList P ops Q rest (a.put o.dst (.agg (setC fun _ => false))) w) : wpList P ops Q (o :: rest) a w := by
  refine wpList_plain hgd fun K hK => ?_
  cases hq : P.info? T with
  | none => simp [hq] at hz
  | some i =>
    have hz' : i.zero = some (.agg (setC fun _ => false)) := by simpa [hq] using hz
    cases hq2 : P.info? e with
    | none => simp [hq2] at he
    | some i2 =>
      have hrun : (Instr.build T #[]).run P w = .ok (.agg (setC fun _ => false)) w := by
        simp [Instr.build, zeroValue, typeInfo, sizeOf, hq, hz', hq2, run_underlying hu, Value.cells, Instr.fill, go_sem]
      unfold Oper.wp execOp
      simp only [ho, List.map_toArray, List.map_nil, Sem.run_bind, hrun, Result.andThen_ok, Sem.run_pure]
      exact hK _ _ h
end
end Go.Proofs.Ytnbmmfkkjceehaa
