/- A queue of whole numbers: the words of the print (rows that begin inside their block), turned to ints. No program in sight. -/
import Derived.Test.YtnbmmfkkjceehaaD0
import Derived.Test.YtnbmmfkkjceehaaWWords
namespace Go.Proofs.Ytnbmmfkkjceehaa
set_option linter.unusedSimpArgs false
set_option linter.unusedVariables false
open Go.RowKit

/-- A queue. -/
def Q1 (w : World) (base : Nat) (e : TypeId) (v : Value) (xs : List Int) : Prop := Go.Proofs.YtnbmmfkkjceehaaW.PrintWords.QRow w base e 1 v xs.length (xs.map (Value.int .i64))
theorem Q1.of_own {w : World} {base : Nat} {e : TypeId} {v : Value} {xs : List Int} (h : w.ownsRow base e 1 v xs.length (xs.map (Value.int .i64))) : Q1 w base e v xs := Go.Proofs.YtnbmmfkkjceehaaW.PrintWords.q_of_own h
theorem Q1.slice {w : World} {base : Nat} {e : TypeId} {v : Value} {xs : List Int} (h : Q1 w base e v xs) : ∃ A c, v = .slice A xs.length c ∧ xs.length ≤ c := Go.Proofs.YtnbmmfkkjceehaaW.PrintWords.q_slice h
theorem Q1.lt {w : World} {base : Nat} {e : TypeId} {v : Value} {xs : List Int} (h : Q1 w base e v xs) (k : Nat) (hk : v.ownBlock = some k) : base ≤ k ∧ k < w.heap.size :=
  ⟨(Go.Proofs.YtnbmmfkkjceehaaW.PrintWords.q_typed h k hk).1, Go.Proofs.YtnbmmfkkjceehaaW.PrintWords.q_lt h k hk⟩
theorem Q1.typed {w : World} {base : Nat} {e : TypeId} {v : Value} {xs : List Int} (h : Q1 w base e v xs) (k : Nat) (hk : v.ownBlock = some k) : ∃ cells, w.heap[k]? = some (.cells cells e (0, 0)) := (Go.Proofs.YtnbmmfkkjceehaaW.PrintWords.q_typed h k hk).2
theorem Q1.move {w w' : World} {base : Nat} {e : TypeId} {v : Value} {xs : List Int} (h : Q1 w base e v xs) (hm : ∀ k, v.ownBlock = some k → w'.heap[k]? = w.heap[k]?) : Q1 w' base e v xs := Go.Proofs.YtnbmmfkkjceehaaW.PrintWords.q_move h hm
theorem Q1.below {w w' : World} {base : Nat} {e : TypeId} {v : Value} {xs : List Int} (h : Q1 w base e v xs) (hb : Below w.heap.size w w') : Q1 w' base e v xs := h.move (fun k hk => hb.block k (h.lt k hk).2)
theorem Q1.cells {w : World} {base : Nat} {e : TypeId} {A : Option Addr} {c : Nat} {xs : List Int} (h : Q1 w base e (.slice A xs.length c) xs) (hn : 0 < xs.length) : ∃ b o, A = some ⟨b, o, none⟩ ∧ b < w.heap.size ∧ ∀ j x, xs[j]? = some x → w.cell? ⟨b, o + j, none⟩ = some (.int .i64 x) := by
  have h0 := h
  rcases h0.2 with ⟨h1, _⟩ | ⟨g, off, cap, cur, hv, hg, hh, _⟩
  · omega
  · injection hv with hA _ _
    subst hA
    obtain ⟨ad, he, hc⟩ := Go.Proofs.YtnbmmfkkjceehaaW.PrintWords.q_cells h hn
    cases he
    refine ⟨g, off * 1, rfl, (Array.getElem?_eq_some_iff.1 hh).1, fun j x hj => ?_⟩
    have := hc j (.int .i64 x) (by simp [hj])
    rwa [Addr.add_lit] at this
theorem Q1.tail {w : World} {base : Nat} {e : TypeId} {A : Option Addr} {c : Nat} {x : Int} {xs : List Int} (h : Q1 w base e (.slice A (x :: xs).length c) (x :: xs)) :
    Q1 w base e (.slice (if c = 1 then A else A.map (·.add 1)) xs.length (c - 1)) xs := by
  have := Go.Proofs.YtnbmmfkkjceehaaW.PrintWords.q_drop (k := 1) h (by simp)
  simpa [Q1] using this

theorem run_append_zero {P : Program} (w : World) (t ty e : TypeId) (ht : P.underlying t = some (.slice e)) (hi : (P.info? e).map (fun i => (i.zero, i.size, i.bytes)) = some (some (.int .i64 0), 1, 8))
    (A B : Option Addr) (n c d : Nat) (hn : n ≤ c) : (Builtin.append_ #[t, t] ty #[.slice A n c, .slice B 0 d]).run P w = .ok (.slice A n c) w := by
  obtain ⟨i0, hi, hz0, hz1, hz2⟩ := info_parts hi
  cases A <;> cases B <;> simp [Builtin.append_, run_underlying ht, sizeOf, typeInfo, hi, Builtin.lenOf, Builtin.firstCells, loadCells, loadCellsFrom, storeCells, hn]

/-- append(v, ys...) onto a queue. -/
theorem wpList_append_queue {P : Program} {w : World} {ops : Array Oper} {rest : List Oper} {o : Oper} {a : Act} {Q : Exit → Act → World → Prop} (hgd : o.guard = none) (s x : Operand) (t : TypeId)
    (ho : o.op = .call { callee := .builtin .append, args := #[s, x], argTypes := #[t, t] })
    (base : Nat) (e : TypeId) (ht : P.underlying t = some (.slice e)) (hi : (P.info? e).map (fun i => (i.zero, i.size, i.bytes)) = some (some (.int .i64 0), 1, 8))
    (v : Value) (xs : List Int) (hs : a.eval s = v) (hown : Q1 w base e v xs)
    (A : Option Addr) (c m : Nat) (ys : List Int) (hx : a.eval x = .slice A m c) (hm : m = ys.length) (hr : RI w A c ys)
    (hbytes : (xs.length + ys.length) * 8 ≤ 140737488355328) (hbase : base ≤ w.heap.size)
    (h : ∀ v' w', Q1 w' base e v' (xs ++ ys) → w.grownBy w' v.ownBlock → (v'.ownBlock = v.ownBlock ∨ ∃ b, v'.ownBlock = some b ∧ w.heap.size ≤ b) → wpList P ops Q rest (a.put o.dst v') w') : wpList P ops Q (o :: rest) a w := by
  subst hm
  by_cases h0 : ys = []
  · subst h0
    obtain ⟨A', c', rfl, hc'⟩ := hown.slice
    have hrun := run_append_zero (P := P) w t o.type e ht hi A' A xs.length c' c hc'
    have hrun' : (Builtin.append_ #[t, t] o.type #[.slice A' xs.length c', .slice A ([] : List Int).length c]).run P w = .ok (.slice A' xs.length c') w := hrun
    refine wpList_plain hgd fun K hK => ?_
    unfold Oper.wp execOp
    simp only [ho, resolve, invoke, builtin, Sem.run_bind, Sem.run_pure, Result.andThen_ok, List.map_toArray, List.map_cons, List.map_nil, hs, hx, hrun']
    exact hK _ _ (h _ _ (by simpa using hown) ⟨rfl, rfl, rfl, Nat.le_refl _, fun _ _ _ => rfl⟩ (.inl rfl))
  · have hpos : 0 < ys.length := List.length_pos_iff.2 h0
    obtain ⟨i0, hi, hz0, hz1, hz2⟩ := info_parts hi
    obtain ⟨b, off, hA, _, _⟩ := hr.at 0 hpos
    subst hA
    obtain ⟨v', w', hrun, h1, h2, h3⟩ := Go.Proofs.YtnbmmfkkjceehaaW.PrintWords.q_append (P := P) w base t o.type e i0 (.int .i64 0) 1 8 ht hi hz0 hz1 hz2 rfl (by decide) v _ _ hown ⟨b, off, none⟩ ys.length c (ys.map (Value.int .i64)) (by simp) (by
      intro j u hj
      rw [List.getElem?_map] at hj
      obtain ⟨y, hy, rfl⟩ := Option.map_eq_some_iff.1 hj
      obtain ⟨b', o', hA', hlt, hc⟩ := hr.get j y hy
      cases hA'
      rw [Addr.add_lit]
      exact hc) (by intro u hu; obtain ⟨y, _, rfl⟩ := List.mem_map.1 hu; rfl) hpos (by unfold maxLen; omega) hbytes hbase
    refine wpList_plain hgd fun K hK => ?_
    unfold Oper.wp execOp
    simp only [ho, resolve, invoke, builtin, Sem.run_bind, Sem.run_pure, Result.andThen_ok, List.map_toArray, List.map_cons, List.map_nil, hs, hx, hrun]
    exact hK _ _ (h v' w' (by simpa [Q1] using h1) h2 h3)
end Go.Proofs.Ytnbmmfkkjceehaa
