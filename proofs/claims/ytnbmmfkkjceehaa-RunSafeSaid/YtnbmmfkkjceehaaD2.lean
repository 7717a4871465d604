/- Rows of instructions and of blocks that are read. No program in sight. -/
import Derived.Test.YtnbmmfkkjceehaaD0
namespace Go.Proofs.Ytnbmmfkkjceehaa
set_option linter.unusedSimpArgs false
set_option linter.unusedVariables false
open Go.RowKit

/-- The cells of an instruction at an address. -/
structure InsAt (w : World) (b o : Nat) (A : Option Addr) (c : Nat) (i : InsD) : Prop where
  c0 : w.cell? ⟨b, o, none⟩ = some (.int .i64 i.op)
  c1 : w.cell? ⟨b, o + 1, none⟩ = some (.int .i64 i.dst)
  c2 : w.cell? ⟨b, o + 2, none⟩ = some (.int .i64 i.a)
  c3 : w.cell? ⟨b, o + 3, none⟩ = some (.int .i64 i.b)
  c4 : w.cell? ⟨b, o + 4, none⟩ = some (.int .i64 i.imm)
  c5 : w.cell? ⟨b, o + 5, none⟩ = some (.int .i64 i.callee)
  c6 : w.cell? ⟨b, o + 6, none⟩ = some (.slice A i.args.length c)
  c7 : w.cell? ⟨b, o + 7, none⟩ = some (.int .i64 i.many)
  args : RI w A c i.args
theorem InsAt.below {w w' : World} {b o c : Nat} {A : Option Addr} {i : InsD} (h : InsAt w b o A c i) (hlt : b < w.heap.size) (hb : Below w.heap.size w w') : InsAt w' b o A c i := by
  have k : ∀ j, w'.cell? ⟨b, j, none⟩ = w.cell? ⟨b, j, none⟩ := fun j => hb.cell (p := ⟨b, j, none⟩) hlt
  exact ⟨(k _).trans h.c0, (k _).trans h.c1, (k _).trans h.c2, (k _).trans h.c3, (k _).trans h.c4, (k _).trans h.c5, (k _).trans h.c6, (k _).trans h.c7, h.args.below hb⟩
structure RIns (w : World) (A : Option Addr) (c : Nat) (l : List InsD) : Prop where
  big : l.length ≤ 140737488351232
  cap : l.length ≤ c
  nil : A = none → c = 0
  get : ∀ j i, l[j]? = some i → ∃ b o A' c', A = some ⟨b, o, none⟩ ∧ b < w.heap.size ∧ InsAt w b (o + j * 8) A' c' i
theorem RIns.below {w w' : World} {A : Option Addr} {c : Nat} {l : List InsD} (h : RIns w A c l) (hb : Below w.heap.size w w') : RIns w' A c l :=
  ⟨h.1, h.2, h.3, fun j i hj => by
    obtain ⟨b, o, A', c', hA, hlt, hc⟩ := h.get j i hj
    exact ⟨b, o, A', c', hA, Nat.lt_of_lt_of_le hlt hb.size, hc.below hlt hb⟩⟩
theorem RIns.at {w : World} {A : Option Addr} {c : Nat} {l : List InsD} (h : RIns w A c l) (j : Nat) (hj : j < l.length) : ∃ b o A' c', A = some ⟨b, o, none⟩ ∧ b < w.heap.size ∧ InsAt w b (o + j * 8) A' c' l[j] :=
  h.get j _ (List.getElem?_eq_getElem hj)
theorem RIns.none_nil {w : World} {c : Nat} {l : List InsD} (h : RIns w none c l) : l = [] ∧ c = 0 :=
  ⟨by
    have := h.cap; have := h.nil rfl
    exact List.length_eq_zero_iff.1 (by omega), h.nil rfl⟩
theorem RIns.empty (w : World) : RIns w none 0 [] := ⟨by simp, by simp, fun _ => rfl, fun j x h => by simp at h⟩

/-- The cells of a block at an address. -/
structure BlkAt (w : World) (b o : Nat) (A : Option Addr) (c : Nat) (x : BlkD) : Prop where
  c0 : w.cell? ⟨b, o, none⟩ = some (.slice A x.ins.length c)
  c1 : w.cell? ⟨b, o + 1, none⟩ = some (.int .i64 x.term.kind)
  c2 : w.cell? ⟨b, o + 2, none⟩ = some (.int .i64 x.term.a)
  c3 : w.cell? ⟨b, o + 3, none⟩ = some (.int .i64 x.term.t0)
  c4 : w.cell? ⟨b, o + 4, none⟩ = some (.int .i64 x.term.t1)
  ins : RIns w A c x.ins
theorem BlkAt.below {w w' : World} {b o c : Nat} {A : Option Addr} {x : BlkD} (h : BlkAt w b o A c x) (hlt : b < w.heap.size) (hb : Below w.heap.size w w') : BlkAt w' b o A c x := by
  have k : ∀ j, w'.cell? ⟨b, j, none⟩ = w.cell? ⟨b, j, none⟩ := fun j => hb.cell (p := ⟨b, j, none⟩) hlt
  exact ⟨(k _).trans h.c0, (k _).trans h.c1, (k _).trans h.c2, (k _).trans h.c3, (k _).trans h.c4, h.ins.below hb⟩
structure RBlk (w : World) (A : Option Addr) (c : Nat) (l : List BlkD) : Prop where
  big : l.length ≤ 140737488351232
  cap : l.length ≤ c
  nil : A = none → c = 0
  get : ∀ j x, l[j]? = some x → ∃ b o A' c', A = some ⟨b, o, none⟩ ∧ b < w.heap.size ∧ BlkAt w b (o + j * 5) A' c' x
theorem RBlk.below {w w' : World} {A : Option Addr} {c : Nat} {l : List BlkD} (h : RBlk w A c l) (hb : Below w.heap.size w w') : RBlk w' A c l :=
  ⟨h.1, h.2, h.3, fun j i hj => by
    obtain ⟨b, o, A', c', hA, hlt, hc⟩ := h.get j i hj
    exact ⟨b, o, A', c', hA, Nat.lt_of_lt_of_le hlt hb.size, hc.below hlt hb⟩⟩
theorem RBlk.at {w : World} {A : Option Addr} {c : Nat} {l : List BlkD} (h : RBlk w A c l) (j : Nat) (hj : j < l.length) : ∃ b o A' c', A = some ⟨b, o, none⟩ ∧ b < w.heap.size ∧ BlkAt w b (o + j * 5) A' c' l[j] :=
  h.get j _ (List.getElem?_eq_getElem hj)
theorem RBlk.none_nil {w : World} {c : Nat} {l : List BlkD} (h : RBlk w none c l) : l = [] ∧ c = 0 :=
  ⟨by
    have := h.cap; have := h.nil rfl
    exact List.length_eq_zero_iff.1 (by omega), h.nil rfl⟩
theorem RBlk.empty (w : World) : RBlk w none 0 [] := ⟨by simp, by simp, fun _ => rfl, fun j x h => by simp at h⟩
end Go.Proofs.Ytnbmmfkkjceehaa
