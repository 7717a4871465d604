/- Plain data of functions (instructions, ends, blocks), and what it is to read them in memory. No program in sight. -/
import Derived.WalkKit
import Derived.Laws.AppendOwnNone
import Derived.Lib.Walk
import Derived.Handy
namespace Go.Proofs.Ytnbmmfkkjceehaa
open Go.RowKit

/-! ### plain data -/
structure InsD where
  op : Int
  dst : Int
  a : Int
  b : Int
  imm : Int
  callee : Int
  args : List Int
  many : Int
structure TermD where
  kind : Int
  a : Int
  t0 : Int
  t1 : Int
structure BlkD where
  ins : List InsD
  term : TermD
structure FnD where
  params : List Int
  blocks : List BlkD

/-! ### reading -/
/-- A row of whole numbers that is read: the slice '.slice A xs.length c'. -/
structure RI (w : World) (A : Option Addr) (c : Nat) (xs : List Int) : Prop where
  big : xs.length ≤ 140737488351232
  cap : xs.length ≤ c
  nil : A = none → c = 0
  get : ∀ j x, xs[j]? = some x → ∃ b o, A = some ⟨b, o, none⟩ ∧ b < w.heap.size ∧ w.cell? ⟨b, o + j, none⟩ = some (.int .i64 x)
theorem RI.below {w w' : World} {A : Option Addr} {c : Nat} {xs : List Int} (h : RI w A c xs) (hb : Below w.heap.size w w') : RI w' A c xs :=
  ⟨h.1, h.2, h.3, fun j x hj => by
    obtain ⟨b, o, hA, hlt, hc⟩ := h.get j x hj
    exact ⟨b, o, hA, Nat.lt_of_lt_of_le hlt hb.size, (hb.cell (p := ⟨b, o + j, none⟩) hlt).trans hc⟩⟩
theorem RI.mono {w w' : World} {B : Nat} {A : Option Addr} {c : Nat} {xs : List Int} (h : RI w A c xs) (hb : Below B w w') (hB : w.heap.size ≤ B) : RI w' A c xs := h.below (hb.mono hB)
theorem RI.empty (w : World) : RI w none 0 [] := ⟨by simp, by simp, fun _ => rfl, fun j x h => by simp at h⟩
theorem RI.at {w : World} {A : Option Addr} {c : Nat} {xs : List Int} (h : RI w A c xs) (j : Nat) (hj : j < xs.length) : ∃ b o, A = some ⟨b, o, none⟩ ∧ b < w.heap.size ∧ w.cell? ⟨b, o + j, none⟩ = some (.int .i64 xs[j]) :=
  h.get j _ (List.getElem?_eq_getElem hj)
theorem RI.none_nil {w : World} {c : Nat} {xs : List Int} (h : RI w none c xs) : xs = [] ∧ c = 0 :=
  ⟨by
    have := h.cap; have := h.nil rfl
    exact List.length_eq_zero_iff.1 (by omega), h.nil rfl⟩
theorem RI.one {w : World} {b o : Nat} {x : Int} (hb : b < w.heap.size) (h0 : w.cell? ⟨b, o, none⟩ = some (.int .i64 x)) : RI w (some ⟨b, o, none⟩) 1 [x] :=
  ⟨by simp, by simp, fun h => by simp at h, fun j y hj => ⟨b, o, rfl, hb, by
    match j, hj with
    | 0, hj => simp at hj; subst hj; exact h0⟩⟩
theorem RI.two {w : World} {b o : Nat} {x y : Int} (hb : b < w.heap.size) (h0 : w.cell? ⟨b, o, none⟩ = some (.int .i64 x)) (h1 : w.cell? ⟨b, o + 1, none⟩ = some (.int .i64 y)) : RI w (some ⟨b, o, none⟩) 2 [x, y] :=
  ⟨by simp, by simp, fun h => by simp at h, fun j u hj => ⟨b, o, rfl, hb, by
    match j, hj with
    | 0, hj => simp at hj; subst hj; exact h0
    | 1, hj => simp at hj; subst hj; exact h1⟩⟩
theorem RI.three {w : World} {b o : Nat} {x y z : Int} (hb : b < w.heap.size) (h0 : w.cell? ⟨b, o, none⟩ = some (.int .i64 x)) (h1 : w.cell? ⟨b, o + 1, none⟩ = some (.int .i64 y)) (h2 : w.cell? ⟨b, o + 2, none⟩ = some (.int .i64 z)) : RI w (some ⟨b, o, none⟩) 3 [x, y, z] :=
  ⟨by simp, by simp, fun h => by simp at h, fun j u hj => ⟨b, o, rfl, hb, by
    match j, hj with
    | 0, hj => simp at hj; subst hj; exact h0
    | 1, hj => simp at hj; subst hj; exact h1
    | 2, hj => simp at hj; subst hj; exact h2⟩⟩

/-! ### a row of the call's own -/
theorem ownsRow_weaken {w : World} {base base' : Nat} {e : TypeId} {size n : Nat} {v : Value} {xs : List Value} (h : w.ownsRow base e size v n xs) (hb : base' ≤ base) : w.ownsRow base' e size v n xs := by
  obtain ⟨h1, h2⟩ := h
  refine ⟨h1, ?_⟩
  rcases h2 with h2 | ⟨g, cap, cur, hv, hg, r⟩
  · exact .inl h2
  · exact .inr ⟨g, cap, cur, hv, Nat.le_trans hb hg, r⟩
theorem ownsRow_RI {w : World} {base : Nat} {e : TypeId} {v : Value} {xs : List Int} (h : w.ownsRow base e 1 v xs.length (xs.map (Value.int .i64))) (hl : xs.length ≤ 140737488351232) : ∃ A c, v = .slice A xs.length c ∧ RI w A c xs := by
  rcases h.2 with ⟨rfl, h0⟩ | ⟨g, cap, cur, rfl, hb, hg, hnc, _⟩
  · have : xs = [] := List.length_eq_zero_iff.1 h0
    subst this
    exact ⟨none, 0, rfl, RI.empty _⟩
  · refine ⟨_, cap, rfl, hl, hnc, fun h => by simp at h, fun j x hj => ⟨g, 0, rfl, (Array.getElem?_eq_some_iff.1 hg).1, ?_⟩⟩
    have hj' := (List.getElem?_eq_some_iff.1 hj).1
    have := h.cellAt j (by omega)
    simpa [hj] using this
theorem ownsRow_below {w w' : World} {base : Nat} {e : TypeId} {size n : Nat} {v : Value} {xs : List Value} (h : w.ownsRow base e size v n xs) (hb : Below w.heap.size w w') : w'.ownsRow base e size v n xs :=
  h.kept (row := none) ⟨hb.os, hb.tape, hb.output, hb.size, fun k hk _ => hb.block k hk⟩ (by cases v.ownBlock <;> simp)
/-- append(v, ys...): v a row of the call's own, ys whole numbers that are read, nil let in. -/
theorem wpList_append_ints {P : Program} {w : World} {ops : Array Oper} {rest : List Oper} {o : Oper} {a : Act} {Q : Exit → Act → World → Prop} (hgd : o.guard = none) (s x : Operand) (t : TypeId)
    (ho : o.op = .call { callee := .builtin .append, args := #[s, x], argTypes := #[t, t] })
    (base : Nat) (e : TypeId) (ht : P.underlying t = some (.slice e)) (hi : (P.info? e).map (fun i => (i.zero, i.size, i.bytes)) = some (some (.int .i64 0), 1, 8))
    (v : Value) (xs : List Int) (hs : a.eval s = v) (hown : w.ownsRow base e 1 v xs.length (xs.map (Value.int .i64)))
    (A : Option Addr) (c m : Nat) (ys : List Int) (hx : a.eval x = .slice A m c) (hm : m = ys.length) (hr : RI w A c ys)
    (hbytes : (xs.length + ys.length) * 8 ≤ 140737488355328) (hbase : base ≤ w.heap.size)
    (h : ∀ v' w', w'.ownsRow base e 1 v' (xs ++ ys).length ((xs ++ ys).map (Value.int .i64)) → w.grownBy w' v.ownBlock → wpList P ops Q rest (a.put o.dst v') w') : wpList P ops Q (o :: rest) a w := by
  subst hm
  obtain ⟨i0, hi, hz0, hz1, hz2⟩ := info_parts hi
  cases A with
  | none =>
    obtain ⟨rfl, rfl⟩ := hr.none_nil
    refine wpList_append_own_none hgd s x t ho base e i0 1 ht hi v _ _ hs hown hx ?_
    refine h _ _ (by simpa using hown) ⟨rfl, rfl, rfl, Nat.le_refl _, fun _ _ _ => rfl⟩
  | some ad =>
    refine wpList_append_own w hgd s x t ho base e i0 (.int .i64 0) 1 8 ht hi hz0 hz1 hz2 rfl (by decide) v _ _ hs hown ad ys.length c (ys.map (Value.int .i64)) hx (by simp) ?_ ?_ (by unfold maxLen; omega) hbytes hbase ?_
    · intro j u hj
      rw [List.getElem?_map] at hj
      obtain ⟨y, hy, rfl⟩ := Option.map_eq_some_iff.1 hj
      obtain ⟨b, o, hA, hlt, hc⟩ := hr.get j y hy
      cases hA
      rw [Addr.add_lit]
      exact hc
    · intro u hu; obtain ⟨y, _, rfl⟩ := List.mem_map.1 hu; rfl
    · intro v' w' h1 h2 _
      exact h v' w' (by simpa using h1) h2

/-- What the world is behind a quiet call. -/
theorem bcell {W w1 : World} {B : Nat} (hb : Below B W w1) : (∀ b o, b < B → w1.cell? ⟨b, o, none⟩ = W.cell? ⟨b, o, none⟩) ∧ (∀ b o, b < B → w1.frozen? ⟨b, o, none⟩ = W.frozen? ⟨b, o, none⟩) :=
  ⟨fun b o h => hb.cell (p := ⟨b, o, none⟩) h, fun b o h => hb.frozen (p := ⟨b, o, none⟩) h⟩

theorem ret_bool {a b : Bool} (h : a = b) : Ending.returned (.bool a) = .returned (.bool b) := by rw [h]
theorem ret_int {k : IntKind} {a b : Int} (h : a = b) : Ending.returned (.int k a) = .returned (.int k b) := by rw [h]
/-- A call that tells a bool and leaves the world alone. -/
def RetB (b : Bool) (w : World) (e : Ending) (w' : World) : Prop := e = .returned (.bool b) ∧ w' = w
/-- A call that tells a bool and may have made memory. -/
def RetBb (b : Bool) (w : World) (e : Ending) (w' : World) : Prop := e = .returned (.bool b) ∧ Below w.heap.size w w'
def RetI (n : Int) (w : World) (e : Ending) (w' : World) : Prop := e = .returned (.int .i64 n) ∧ w' = w
/-- What is told is a fresh row of whole numbers (nil, if there are none). -/
def RetRow (e0 : TypeId) (xs : List Int) (w : World) (e : Ending) (w' : World) : Prop := ∃ v, e = .returned v ∧ Below w.heap.size w w' ∧ w'.ownsRow w.heap.size e0 1 v xs.length (xs.map (Value.int .i64))
theorem RetRow.nil {e0 : TypeId} {w w' : World} (h : Below w.heap.size w w') : RetRow e0 [] w (.returned (.slice none 0 0)) w' := ⟨_, rfl, h, World.ownsRow_nil _ _ _ _⟩
def RetIb (n : Int) (w : World) (e : Ending) (w' : World) : Prop := e = .returned (.int .i64 n) ∧ Below w.heap.size w w'
end Go.Proofs.Ytnbmmfkkjceehaa
