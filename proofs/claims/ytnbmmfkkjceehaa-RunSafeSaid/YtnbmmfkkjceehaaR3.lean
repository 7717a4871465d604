/- Rows of cells (instructions, blocks): raw, with their heads; copies of rows. -/
import Derived.Test.YtnbmmfkkjceehaaA6
import Derived.Deep.Slices
namespace Go.Proofs.Ytnbmmfkkjceehaa
set_option linter.unusedSimpArgs false
set_option linter.unusedVariables false
open Go.RowKit

abbrev HdF := Nat → Option Addr × Nat
def updH (h : HdF) (k : Nat) (x : Option Addr × Nat) : HdF := fun j => if j = k then x else h j
/-- A row of n elements of sz cells each that is read raw. -/
structure RV (w : World) (A : Option Addr) (c n sz : Nat) (vs : List Value) : Prop where
  len : vs.length = n * sz
  cap : n ≤ c
  nil : A = none → c = 0
  get : ∀ j v, vs[j]? = some v → ∃ b o, A = some ⟨b, o, none⟩ ∧ b < w.heap.size ∧ w.cell? ⟨b, o + j, none⟩ = some v
theorem RV.below {w w' : World} {A : Option Addr} {c n sz : Nat} {vs : List Value} (h : RV w A c n sz vs) (hb : Below w.heap.size w w') : RV w' A c n sz vs :=
  ⟨h.1, h.2, h.3, fun j x hj => by
    obtain ⟨b, o, hA, hlt, hc⟩ := h.get j x hj
    exact ⟨b, o, hA, Nat.lt_of_lt_of_le hlt hb.size, (hb.cell (p := ⟨b, o + j, none⟩) hlt).trans hc⟩⟩
theorem flat_get {α : Type} (f : Nat → List α) (k : Nat) (hf : ∀ j, (f j).length = k) : ∀ (n j c : Nat), j < n → c < k → ((List.range n).flatMap f)[j * k + c]? = (f j)[c]? := by
  have hl : ∀ n, ((List.range n).flatMap f).length = n * k := by
    intro n
    induction n with
    | zero => simp
    | succ n ih => rw [List.range_succ, List.flatMap_append, List.length_append, ih]; simp [hf, Nat.succ_mul]
  intro n
  induction n with
  | zero => intro j c hj; omega
  | succ n ih =>
    intro j c hj hc
    rw [List.range_succ, List.flatMap_append]
    by_cases e : j = n
    · subst e
      rw [List.getElem?_append_right (by rw [hl]; omega), hl]
      simp
    · have h1 : j * k + c < n * k := by
        have : (j + 1) * k ≤ n * k := Nat.mul_le_mul_right k (by omega)
        rw [Nat.succ_mul] at this
        omega
      rw [List.getElem?_append_left (by rw [hl]; exact h1)]
      exact ih j c (by omega) hc
theorem flat_len {α : Type} (f : Nat → List α) (k : Nat) (hf : ∀ j, (f j).length = k) (n : Nat) : ((List.range n).flatMap f).length = n * k := by
  induction n with
  | zero => simp
  | succ n ih => rw [List.range_succ, List.flatMap_append, List.length_append, ih]; simp [hf, Nat.succ_mul]

def insCells (i : InsD) (h : Option Addr × Nat) : List Value := [.int .i64 i.op, .int .i64 i.dst, .int .i64 i.a, .int .i64 i.b, .int .i64 i.imm, .int .i64 i.callee, .slice h.1 i.args.length h.2, .int .i64 i.many]
/-- The cells vs are those of the instructions l, the heads of whose arguments are h. -/
def CIns (vs : List Value) (l : List InsD) (h : HdF) : Prop := vs.length = l.length * 8 ∧ ∀ j i, l[j]? = some i → ∀ c v, (insCells i (h j))[c]? = some v → vs[j * 8 + c]? = some v
def blkCells (x : BlkD) (h : Option Addr × Nat) : List Value := [.slice h.1 x.ins.length h.2, .int .i64 x.term.kind, .int .i64 x.term.a, .int .i64 x.term.t0, .int .i64 x.term.t1]
def CBlk (vs : List Value) (l : List BlkD) (h : HdF) : Prop := vs.length = l.length * 5 ∧ ∀ j x, l[j]? = some x → ∀ c v, (blkCells x (h j))[c]? = some v → vs[j * 5 + c]? = some v

theorem RIns.raw {w : World} {A : Option Addr} {c : Nat} {l : List InsD} (h : RIns w A c l) : ∃ vs hd, RV w A c l.length 8 vs ∧ CIns vs l hd ∧ ∀ j i, l[j]? = some i → RI w (hd j).1 (hd j).2 i.args := by
  obtain ⟨hd, hh⟩ := Go.Deep.choose_lt (α := Option Addr × Nat) (n := l.length) (p := fun j x => ∃ b o, A = some ⟨b, o, none⟩ ∧ b < w.heap.size ∧ ∀ i, l[j]? = some i → InsAt w b (o + j * 8) x.1 x.2 i) (fun j hj => by
    obtain ⟨b, o, A', c', h1, h2, h3⟩ := h.at j hj
    refine ⟨(A', c'), b, o, h1, h2, fun i hi => ?_⟩
    rw [List.getElem?_eq_getElem hj] at hi
    cases hi; exact h3)
  let f : Nat → List Value := fun j => match l[j]? with
    | some i => insCells i (hd j)
    | none => List.replicate 8 .nilIface
  have hf : ∀ j, (f j).length = 8 := fun j => by
    show (match l[j]? with | some i => insCells i (hd j) | none => List.replicate 8 .nilIface).length = 8
    split <;> simp [insCells]
  have hfi : ∀ j i, l[j]? = some i → f j = insCells i (hd j) := fun j i hi => by
    show (match l[j]? with | some i => insCells i (hd j) | none => List.replicate 8 .nilIface) = _
    rw [hi]
  refine ⟨(List.range l.length).flatMap f, hd, ⟨flat_len f 8 hf _, h.cap, h.nil, fun q v hq => ?_⟩, ⟨flat_len f 8 hf _, fun j i hi c v hv => ?_⟩, fun j i hi => ?_⟩
  · have hlt : q < l.length * 8 := by have := (List.getElem?_eq_some_iff.1 hq).1; rwa [flat_len f 8 hf] at this
    have hj : q / 8 < l.length := by omega
    have hq2 : q = q / 8 * 8 + q % 8 := by omega
    rw [hq2, flat_get f 8 hf _ _ _ hj (by omega), hfi _ _ (List.getElem?_eq_getElem hj)] at hq
    obtain ⟨b, o, h1, h2, h3⟩ := hh _ hj
    have h4 := h3 _ (List.getElem?_eq_getElem hj)
    refine ⟨b, o, h1, h2, ?_⟩
    rw [show o + q = o + q / 8 * 8 + q % 8 by omega]
    have hm : q % 8 < 8 := by omega
    generalize q % 8 = r at hq hm ⊢
    match r, hm, hq with
    | 0, _, hq => simp [insCells] at hq; subst hq; exact h4.c0
    | 1, _, hq => simp [insCells] at hq; subst hq; exact h4.c1
    | 2, _, hq => simp [insCells] at hq; subst hq; exact h4.c2
    | 3, _, hq => simp [insCells] at hq; subst hq; exact h4.c3
    | 4, _, hq => simp [insCells] at hq; subst hq; exact h4.c4
    | 5, _, hq => simp [insCells] at hq; subst hq; exact h4.c5
    | 6, _, hq => simp [insCells] at hq; subst hq; exact h4.c6
    | 7, _, hq => simp [insCells] at hq; subst hq; exact h4.c7
  · have hj := (List.getElem?_eq_some_iff.1 hi).1
    have hc : c < 8 := by have := (List.getElem?_eq_some_iff.1 hv).1; simpa [insCells] using this
    rw [flat_get f 8 hf _ _ _ hj hc, hfi _ _ hi]
    exact hv
  · have hj := (List.getElem?_eq_some_iff.1 hi).1
    obtain ⟨b, o, h1, h2, h3⟩ := hh _ hj
    exact (h3 i hi).args
theorem RBlk.raw {w : World} {A : Option Addr} {c : Nat} {l : List BlkD} (h : RBlk w A c l) : ∃ vs hd, RV w A c l.length 5 vs ∧ CBlk vs l hd ∧ ∀ j x, l[j]? = some x → RIns w (hd j).1 (hd j).2 x.ins := by
  obtain ⟨hd, hh⟩ := Go.Deep.choose_lt (α := Option Addr × Nat) (n := l.length) (p := fun j x => ∃ b o, A = some ⟨b, o, none⟩ ∧ b < w.heap.size ∧ ∀ i, l[j]? = some i → BlkAt w b (o + j * 5) x.1 x.2 i) (fun j hj => by
    obtain ⟨b, o, A', c', h1, h2, h3⟩ := h.at j hj
    refine ⟨(A', c'), b, o, h1, h2, fun i hi => ?_⟩
    rw [List.getElem?_eq_getElem hj] at hi
    cases hi; exact h3)
  let f : Nat → List Value := fun j => match l[j]? with
    | some i => blkCells i (hd j)
    | none => List.replicate 5 .nilIface
  have hf : ∀ j, (f j).length = 5 := fun j => by
    show (match l[j]? with | some i => blkCells i (hd j) | none => List.replicate 5 .nilIface).length = 5
    split <;> simp [blkCells]
  have hfi : ∀ j i, l[j]? = some i → f j = blkCells i (hd j) := fun j i hi => by
    show (match l[j]? with | some i => blkCells i (hd j) | none => List.replicate 5 .nilIface) = _
    rw [hi]
  refine ⟨(List.range l.length).flatMap f, hd, ⟨flat_len f 5 hf _, h.cap, h.nil, fun q v hq => ?_⟩, ⟨flat_len f 5 hf _, fun j i hi c v hv => ?_⟩, fun j i hi => ?_⟩
  · have hlt : q < l.length * 5 := by have := (List.getElem?_eq_some_iff.1 hq).1; rwa [flat_len f 5 hf] at this
    have hj : q / 5 < l.length := by omega
    have hq2 : q = q / 5 * 5 + q % 5 := by omega
    rw [hq2, flat_get f 5 hf _ _ _ hj (by omega), hfi _ _ (List.getElem?_eq_getElem hj)] at hq
    obtain ⟨b, o, h1, h2, h3⟩ := hh _ hj
    have h4 := h3 _ (List.getElem?_eq_getElem hj)
    refine ⟨b, o, h1, h2, ?_⟩
    rw [show o + q = o + q / 5 * 5 + q % 5 by omega]
    have hm : q % 5 < 5 := by omega
    generalize q % 5 = r at hq hm ⊢
    match r, hm, hq with
    | 0, _, hq => simp [blkCells] at hq; subst hq; exact h4.c0
    | 1, _, hq => simp [blkCells] at hq; subst hq; exact h4.c1
    | 2, _, hq => simp [blkCells] at hq; subst hq; exact h4.c2
    | 3, _, hq => simp [blkCells] at hq; subst hq; exact h4.c3
    | 4, _, hq => simp [blkCells] at hq; subst hq; exact h4.c4
  · have hj := (List.getElem?_eq_some_iff.1 hi).1
    have hc : c < 5 := by have := (List.getElem?_eq_some_iff.1 hv).1; simpa [blkCells] using this
    rw [flat_get f 5 hf _ _ _ hj hc, hfi _ _ hi]
    exact hv
  · have hj := (List.getElem?_eq_some_iff.1 hi).1
    obtain ⟨b, o, h1, h2, h3⟩ := hh _ hj
    exact (h3 i hi).ins
/-- A cell is stored: the head of one element. -/
theorem CIns.store {vs : List Value} {l : List InsD} {h : HdF} (hc : CIns vs l h) (k : Nat) (hk : k < l.length) (x : Option Addr × Nat) : CIns (vs.set (k * 8 + 6) (.slice x.1 (l[k]).args.length x.2)) l (updH h k x) := by
  refine ⟨by rw [List.length_set]; exact hc.1, fun j i hi c v hv => ?_⟩
  have hjl := (List.getElem?_eq_some_iff.1 hi).1
  have hcl : c < 8 := by have := (List.getElem?_eq_some_iff.1 hv).1; simpa [insCells] using this
  have hlen := hc.1
  by_cases e : j = k
  · subst e
    have hik : i = l[j] := by rw [List.getElem?_eq_getElem hk] at hi; exact (Option.some.inj hi).symm
    subst hik
    by_cases e6 : c = 6
    · subst e6
      rw [List.getElem?_set_self (by omega)]
      simpa [insCells, updH] using hv
    · rw [List.getElem?_set_ne (by omega)]
      refine hc.2 j _ hi c v ?_
      match c, hcl, e6, hv with
      | 0, _, _, hv => simpa [insCells] using hv
      | 1, _, _, hv => simpa [insCells] using hv
      | 2, _, _, hv => simpa [insCells] using hv
      | 3, _, _, hv => simpa [insCells] using hv
      | 4, _, _, hv => simpa [insCells] using hv
      | 5, _, _, hv => simpa [insCells] using hv
      | 7, _, _, hv => simpa [insCells] using hv
  · rw [List.getElem?_set_ne (by omega)]
    refine hc.2 j i hi c v ?_
    simpa [updH, e] using hv
theorem CBlk.store {vs : List Value} {l : List BlkD} {h : HdF} (hc : CBlk vs l h) (k : Nat) (hk : k < l.length) (x : Option Addr × Nat) : CBlk (vs.set (k * 5) (.slice x.1 (l[k]).ins.length x.2)) l (updH h k x) := by
  refine ⟨by rw [List.length_set]; exact hc.1, fun j i hi c v hv => ?_⟩
  have hjl := (List.getElem?_eq_some_iff.1 hi).1
  have hcl : c < 5 := by have := (List.getElem?_eq_some_iff.1 hv).1; simpa [blkCells] using this
  have hlen := hc.1
  by_cases e : j = k
  · subst e
    have hik : i = l[j] := by rw [List.getElem?_eq_getElem hk] at hi; exact (Option.some.inj hi).symm
    subst hik
    by_cases e0 : c = 0
    · subst e0
      rw [Nat.add_zero, List.getElem?_set_self (by omega)]
      simpa [blkCells, updH] using hv
    · rw [List.getElem?_set_ne (by omega)]
      refine hc.2 j _ hi c v ?_
      match c, hcl, e0, hv with
      | 1, _, _, hv => simpa [blkCells] using hv
      | 2, _, _, hv => simpa [blkCells] using hv
      | 3, _, _, hv => simpa [blkCells] using hv
      | 4, _, _, hv => simpa [blkCells] using hv
  · rw [List.getElem?_set_ne (by omega)]
    refine hc.2 j i hi c v ?_
    simpa [updH, e] using hv
theorem CIns.insAt {vs : List Value} {l : List InsD} {h : HdF} (hc : CIns vs l h) {w : World} {b : Nat} (hv : ∀ j v, vs[j]? = some v → w.cell? ⟨b, j, none⟩ = some v) {k : Nat} (hk : k < l.length) (hr : RI w (h k).1 (h k).2 l[k].args) : InsAt w b (k * 8) (h k).1 (h k).2 l[k] := by
  have key : ∀ c v, (insCells l[k] (h k))[c]? = some v → w.cell? ⟨b, k * 8 + c, none⟩ = some v := fun c v h1 => hv _ _ (hc.2 k _ (List.getElem?_eq_getElem hk) c v h1)
  exact ⟨key 0 _ rfl, key 1 _ rfl, key 2 _ rfl, key 3 _ rfl, key 4 _ rfl, key 5 _ rfl, key 6 _ rfl, key 7 _ rfl, hr⟩
theorem CBlk.blkAt {vs : List Value} {l : List BlkD} {h : HdF} (hc : CBlk vs l h) {w : World} {b : Nat} (hv : ∀ j v, vs[j]? = some v → w.cell? ⟨b, j, none⟩ = some v) {k : Nat} (hk : k < l.length) (hr : RIns w (h k).1 (h k).2 l[k].ins) : BlkAt w b (k * 5) (h k).1 (h k).2 l[k] := by
  have key : ∀ c v, (blkCells l[k] (h k))[c]? = some v → w.cell? ⟨b, k * 5 + c, none⟩ = some v := fun c v h1 => hv _ _ (hc.2 k _ (List.getElem?_eq_getElem hk) c v h1)
  exact ⟨key 0 _ rfl, key 1 _ rfl, key 2 _ rfl, key 3 _ rfl, key 4 _ rfl, hr⟩
end Go.Proofs.Ytnbmmfkkjceehaa
