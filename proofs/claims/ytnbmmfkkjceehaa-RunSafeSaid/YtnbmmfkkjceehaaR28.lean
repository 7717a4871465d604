/- Contract: goes; a local array of 201 whole numbers. -/
import Derived.Test.YtnbmmfkkjceehaaR27
namespace Go.Proofs.Ytnbmmfkkjceehaa
set_option linter.unusedSimpArgs false
set_option linter.unusedVariables false
open Go.RowKit

abbrev NumF := Nat → Int
def numC (s : NumF) : Array Value := Array.ofFn (n := 201) fun i => Value.int .i64 (s i)
def updN (s : NumF) (k : Nat) (v : Int) : NumF := fun i => if i = k then v else s i
theorem numC_get (s : NumF) (k : Nat) (h : k < 201) : (numC s)[k]? = some (.int .i64 (s k)) := by simp [numC, h]
theorem numC_size (s : NumF) : (numC s).size = 201 := by simp [numC]
theorem numC_set (s : NumF) (k : Nat) (v : Int) (h : k < 201) : (numC s).setIfInBounds k (.int .i64 v) = numC (updN s k v) := by
  apply Array.ext
  · simp [numC]
  · intro i h1 h2
    have h3 : i < 201 := by simpa [numC] using h2
    have h4 : i < (numC s).size := by rw [numC_size]; exact h3
    rw [Array.getElem_setIfInBounds h4]
    by_cases e : k = i
    · subst e; simp [numC, updN]
    · have : ¬ i = k := fun x => e x.symm
      rw [if_neg e]
      simp [numC, updN, this]
/-- Block B is an array of 201 whole numbers. -/
def NumAt (w : World) (B : Nat) (T : TypeId) (s : NumF) : Prop := w.heap[B]? = some (.cells (numC s) T (0, 0))
theorem NumAt.lt {w : World} {B : Nat} {T : TypeId} {s : NumF} (h : NumAt w B T s) : B < w.heap.size := lt_of_block h
theorem NumAt.cell {w : World} {B : Nat} {T : TypeId} {s : NumF} (h : NumAt w B T s) (k : Nat) (hk : k < 201) : w.cell? ⟨B, k, none⟩ = some (.int .i64 (s k)) := by
  rw [cell_of_row w B k _ T (0, 0) h]; exact numC_get s k hk
theorem NumAt.free {w : World} {B : Nat} {T : TypeId} {s : NumF} (h : NumAt w B T s) (k : Nat) : w.frozen? ⟨B, k, none⟩ = false := frozen_of_row w B k _ T h
theorem NumAt.stored {w : World} {B : Nat} {T : TypeId} {s : NumF} (h : NumAt w B T s) (k : Nat) (hk : k < 201) (v : Int) : NumAt (w.setCell ⟨B, k, none⟩ (.int .i64 v)) B T (updN s k v) := by
  have := heap_setCell_same w B k _ T (.int .i64 v) h
  rw [numC_set s k v hk] at this
  exact this
theorem NumAt.new (w : World) (T : TypeId) (s : NumF) : NumAt (w.alloc (.cells (numC s) T)) w.heap.size T s := heap_alloc_new w _
theorem NumAt.kept {w w' : World} {B : Nat} {T : TypeId} {s : NumF} (h : NumAt w B T s) (hb : w'.heap[B]? = w.heap[B]?) : NumAt w' B T s := hb.trans h
section
variable {P : Program} {ops : Array Oper} {rest : List Oper} {o : Oper} {a : Act} {w : World} {Q : Exit → Act → World → Prop}
/-- 'var a [201]int' in a block of its own. -/
theorem wpList_alloc_num (hgd : o.guard = none) (T : TypeId) (ho : o.op = .alloc T) (hz : (P.info? T).map (·.zero) = some (some (.agg (numC fun _ => 0))))
    (h : wpList P ops Q rest (a.put o.dst (.pointer (some ⟨w.heap.size, 0, none⟩))) (w.alloc (.cells (numC fun _ => 0) T))) : wpList P ops Q (o :: rest) a w := by
  refine wpList_plain hgd fun K hK => ?_
  cases hq : P.info? T with
  | none => simp [hq] at hz
  | some i =>
    have hz' : i.zero = some (.agg (numC fun _ => 0)) := by simpa [hq] using hz
    have hrun : (Instr.alloc T true (.tuple #[])).run P w = .ok (.pointer (some ⟨w.heap.size, 0, none⟩)) (w.alloc (.cells (numC fun _ => 0) T)) := by
      simp [Instr.alloc, zeroValue, typeInfo, hq, hz', newVar, newRow, Value.cells, go_sem]
    unfold Oper.wp execOp
    simp only [ho, Sem.run_bind, hrun, Result.andThen_ok, Sem.run_pure]
    exact hK _ _ h
end
theorem Try.numZero : (Try.prog.info? 62).map (·.zero) = some (some (.agg (numC fun _ => 0))) := by kernel_rfl
set_option maxHeartbeats 2000000 in
set_option maxRecDepth 100000 in
theorem goes_any (w : World) (t : TermD) (b : Int) : Calls Try.prog 22 #[termV t, .int .i64 b] w (RetBb (decide (b ∈ toL t)) w) := by
  have hl := toL_len t
  obtain ⟨l, hl0⟩ : ∃ l, toL t = l := ⟨_, rfl⟩
  have HT := Lib.hid hl0
  rw [hl0] at hl ⊢
  clear hl0
  simp only [termV]
  go_enter Try.func22, Try.ntmps22
  go_wp2_with (go_at_call 33; refine (to_any _ t).mono ?_; rintro e w1 ⟨v, rfl, hb, hown⟩; rw [HT.out] at hown; obtain ⟨A, c, rfl, hr, _⟩ := ownsRow_RI_base hown (by omega); have HR := Lib.hid hr; have HB : Hid (Below w.heap.size w w1) := Lib.hid (((Below.refl _ _).alloc (Nat.le_refl _) _).trans (hb.mono (by simp))); clear hb hown hr)
  go_loop [6] (fun kv => ∃ k : Nat, k ≤ l.length ∧ kv = .int .i64 k ∧ Hid (b ∉ l.take k)) (fun kv => l.length - (intOf kv).toNat)
  case atStart => exact ⟨0, Nat.zero_le _, rfl, Lib.hid (by simp)⟩
  case round =>
    obtain ⟨k, hk, rfl, HN⟩ := hrel
    by_cases hlt : k < l.length
    · obtain ⟨b1, o1, hA, hbs, hc⟩ := HR.out.at k hlt
      subst hA
      obtain ⟨x, hx⟩ : ∃ x, l[k] = x := ⟨_, rfl⟩
      have HS : Hid (l.take (k + 1) = l.take k ++ [x]) := Lib.hid (by rw [take_snoc_eq l k hlt, hx])
      have HM : Hid (x ∈ l) := Lib.hid (by rw [← hx]; exact List.getElem_mem hlt)
      rw [hx] at hc
      clear hx
      by_cases he : x = b
      · subst he
        have hxx : (x == x) = true := by simp
        go_wp2_with fail
        go_ret
        exact ⟨by rw [decide_eq_true HM.out]; rfl, HB.out⟩
      · have hxx : (x == b) = false := by simpa using he
        go_wp2_with fail
        go_round
        case rel => exact ⟨k + 1, by omega, by go_num, Lib.hid (by rw [HS.out]; simp; exact ⟨HN.out, fun e => he e.symm⟩)⟩
        case measure => simp [intOf]; omega
    · have hne : b ∉ l := by have h := HN.out; rwa [List.take_of_length_le (by omega)] at h
      go_wp2_with fail
      go_ret
      first | exact ⟨rfl, HB.out⟩ | exact ⟨by rw [decide_eq_false hne]; rfl, HB.out⟩
end Go.Proofs.Ytnbmmfkkjceehaa
