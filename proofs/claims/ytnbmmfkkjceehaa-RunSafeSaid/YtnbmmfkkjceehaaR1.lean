/- A map of whole numbers to whole numbers (variables' values) that the program makes: as a function. -/
import Derived.Test.YtnbmmfkkjceehaaD0
import Derived.Test.YtnbmmfkkjceehaaProg
import Derived.Maps.Own
import Derived.Maps.OwnOps
import Derived.Maps.OwnSet
import Derived.Maps.Views
import Derived.KernelRfl
namespace Go.Proofs.Ytnbmmfkkjceehaa
set_option linter.unusedSimpArgs false
set_option linter.unusedVariables false
open Go.RowKit Go.Maps

abbrev ValF := Int → Option Int
def setV (s : ValF) (x v : Int) : ValF := fun y => if y = x then some v else s y
def okI (x : Int) : Prop := (Lit.int .i64 x).wf = true
/-- Block m is a map of at most n entries, which tells s. -/
def VarsAt (w : World) (m n : Nat) (s : ValF) : Prop := ∃ D : DataW Unit, w.ownsMap Try.prog 3 (plainElem Try.prog 3) m n D ∧
  ∀ x, okI x → (Maps.has D (.int .i64 x) = (s x).isSome ∧ D.atKey (.int .i64 x) (.lit (.int .i64 0)) = .lit (.int .i64 ((s x).getD 0)))
theorem Try.keyI : Keyed Try.prog 3 := int_keyed Try.underlying3
theorem Try.zeroI (w : World) : (zeroValue 3).run Try.prog w = .ok (.int .i64 0) w := by kernel_rfl
theorem VarsAt.lt {w : World} {m n : Nat} {s : ValF} (h : VarsAt w m n s) : m < w.heap.size := by
  obtain ⟨D, h, _⟩ := h; exact h.lt
theorem VarsAt.made (w : World) : VarsAt (w.alloc (.map #[] 0)) w.heap.size 0 (fun _ => none) :=
  ⟨.map [], World.ownsMap_made w _ _ _, fun x _ => ⟨rfl, rfl⟩⟩
theorem VarsAt.kept {w w' : World} {m n : Nat} {s : ValF} (h : VarsAt w m n s) (hb : w'.heap[m]? = w.heap[m]?) : VarsAt w' m n s := by
  obtain ⟨D, ⟨es, clock, h1, F, h2, h3⟩, h4⟩ := h
  exact ⟨D, ⟨es, clock, hb.trans h1, F, h2, h3⟩, h4⟩
theorem VarsAt.look {w : World} {m n T : Nat} {s : ValF} (h : VarsAt w m n s) (hT : Try.prog.underlying T = some (.map 3 3)) (x : Int) (hx : okI x) : (Instr.lookup T (.map (some m)) (.int .i64 x) false).run Try.prog w = .ok (.int .i64 ((s x).getD 0)) w := by
  obtain ⟨D, h1, h2⟩ := h
  obtain ⟨c, hrun, hat, _⟩ := h1.lookup_int Try.keyI hT Try.underlying3 (Try.zeroI w) (keyOf_int_mk Try.underlying3 hx)
  rw [hrun]
  have := (h2 x hx).2
  rw [hat] at this
  simp only [DataW.lit.injEq, Lit.int.injEq, true_and] at this
  rw [this]
theorem VarsAt.okv {w : World} {m n T : Nat} {s : ValF} (h : VarsAt w m n s) (hT : Try.prog.underlying T = some (.map 3 3)) (x : Int) (hx : okI x) : okI ((s x).getD 0) := by
  obtain ⟨D, h1, h2⟩ := h
  obtain ⟨c, hrun, hat, hw⟩ := h1.lookup_int Try.keyI hT Try.underlying3 (Try.zeroI w) (keyOf_int_mk Try.underlying3 hx)
  have := (h2 x hx).2
  rw [hat] at this
  simp only [DataW.lit.injEq, Lit.int.injEq, true_and] at this
  rw [← this]; exact hw
theorem VarsAt.lookOk {w : World} {m n T : Nat} {s : ValF} (h : VarsAt w m n s) (hT : Try.prog.underlying T = some (.map 3 3)) (x : Int) (hx : okI x) : (Instr.lookup T (.map (some m)) (.int .i64 x) true).run Try.prog w = .ok (.tuple #[.int .i64 ((s x).getD 0), .bool (s x).isSome]) w := by
  obtain ⟨D, h1, h2⟩ := h
  obtain ⟨v, ps, hrun, hv⟩ := h1.look_ok Try.keyI hT (Try.zeroI w) (plainElem_int Try.underlying3 (by decide)) (keyOf_int_mk Try.underlying3 hx)
  rw [hrun]
  obtain ⟨c, rfl, hc, hwc⟩ := plainElem_int_inv Try.underlying3 hv
  have h3 := (h2 x hx).2
  have h4 := congrArg Prod.fst hc
  simp only at h4
  rw [h4] at h3
  simp only [DataW.lit.injEq, Lit.int.injEq, true_and] at h3
  rw [h3, (h2 x hx).1]
theorem VarsAt.put {w : World} {m n T : Nat} {s : ValF} (h : VarsAt w m n s) (hT : Try.prog.underlying T = some (.map 3 3)) (hn : n < maxLen) (x v : Int) (hx : okI x) (hv : okI v) :
    ∃ w', (Instr.mapUpdate T (.map (some m)) (.int .i64 x) (.int .i64 v)).run Try.prog w = .ok () w' ∧ VarsAt w' m (n + 1) (setV s x v) ∧ w.grownBy w' (some m) := by
  obtain ⟨D, h1, h2⟩ := h
  obtain ⟨w', hrun, h3, h4⟩ := h1.update Try.keyI hT hn (keyOf_int_mk Try.underlying3 hx) (plainElem_int Try.underlying3 hv)
  refine ⟨w', hrun, ⟨_, h3, fun y hy => ?_⟩, h4⟩
  have hm : IsMap D := h1.isMap
  have hk : WideAt.IsKeyLit (.int .i64 x) := trivial
  by_cases e : y = x
  · subst e
    rw [has_put_same hm hk, atKey_put_same hm hk]
    simp [setV]
  · have hne : Lit.int .i64 y ≠ Lit.int .i64 x := fun h => e (by simpa using h)
    rw [has_put_other hne, atKey_put_other hne]
    simpa [setV, e] using h2 y hy
/-- m[x] = v, at the list of operations. -/
theorem wpList_put {ops : Array Oper} {rest : List Oper} {o : Oper} {a : Act} {w : World} {Q : Exit → Act → World → Prop} (hg : o.guard = none) (p x v : Operand) (T : TypeId) (hop : o.op = Op.mapUpdate T p x v) (hT : Try.prog.underlying T = some (.map 3 3))
    (m n : Nat) (s : ValF) (hm : a.eval p = .map (some m)) (h : VarsAt w m n s) (hn : n < maxLen) (y u : Int) (hx : a.eval x = .int .i64 y) (hv : a.eval v = .int .i64 u) (hy : okI y) (hu : okI u)
    (hK : ∀ w', VarsAt w' m (n + 1) (setV s y u) → w.grownBy w' (some m) → wpList Try.prog ops Q rest (a.put o.dst undef) w') : wpList Try.prog ops Q (o :: rest) a w := by
  refine wpList_plain hg fun K' hK' => ?_
  obtain ⟨w', hrun, r1, r2⟩ := h.put hT hn y u hy hu
  unfold Oper.wp
  simp [execOp, hop, hm, hx, hv, hrun, Result.andThen]
  exact hK' _ _ (hK w' r1 r2)
end Go.Proofs.Ytnbmmfkkjceehaa
