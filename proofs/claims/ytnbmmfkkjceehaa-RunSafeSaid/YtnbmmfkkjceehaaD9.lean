/- From a reading of an argument (numbers, rows of numbers, instructions, blocks, functions) to plain data. -/
import Derived.Test.YtnbmmfkkjceehaaD2
import Derived.Test.YtnbmmfkkjceehaaProg
import Derived.SizedLaws
import Derived.OpenShut
import Derived.Deep.Slices
import Derived.KernelRfl
namespace Go.Proofs.Ytnbmmfkkjceehaa
set_option linter.unusedSimpArgs false
set_option linter.unusedVariables false
open Go.RowKit Go.Deep Go.ChangeShapes Go.WideShapes

def wfI (n : Int) : Prop := -9223372036854775808 ≤ n ∧ n ≤ 9223372036854775807
theorem wfI_of {n : Int} (h : (Lit.int .i64 n).wf = true) : wfI n := by
  have h2 : IntKind.i64.min ≤ n ∧ n ≤ 9223372036854775807 := by simpa [Lit.wf] using h
  have : IntKind.i64.min = -9223372036854775808 := by decide
  unfold wfI
  omega
structure InsW (i : InsD) : Prop where
  op : wfI i.op
  dst : wfI i.dst
  a : wfI i.a
  b : wfI i.b
  imm : wfI i.imm
  callee : wfI i.callee
  many : wfI i.many
  args : ∀ v ∈ i.args, wfI v
structure TermW (t : TermD) : Prop where
  kind : wfI t.kind
  a : wfI t.a
  t0 : wfI t.t0
  t1 : wfI t.t1
structure BlkW (x : BlkD) : Prop where
  ins : ∀ i ∈ x.ins, InsW i
  term : TermW x.term
structure FnW (f : FnD) : Prop where
  params : ∀ v ∈ f.params, wfI v
  blocks : ∀ x ∈ f.blocks, BlkW x

theorem Try.c_int : Try.prog.cellsOf 3 = 1 := by kernel_rfl
theorem Try.c_op : Try.prog.cellsOf 22 = 1 := by kernel_rfl
theorem Try.c_kind : Try.prog.cellsOf 50 = 1 := by kernel_rfl
theorem Try.c_ints : Try.prog.cellsOf 27 = 1 := by kernel_rfl
theorem Try.c_inss : Try.prog.cellsOf 49 = 1 := by kernel_rfl
theorem Try.c_blks : Try.prog.cellsOf 28 = 1 := by kernel_rfl
theorem Try.c_ins : Try.prog.cellsOf 59 = 8 := by kernel_rfl
theorem Try.c_term : Try.prog.cellsOf 53 = 4 := by kernel_rfl
theorem Try.c_two : Try.prog.cellsOf 51 = 2 := by kernel_rfl
theorem Try.c_blk : Try.prog.cellsOf 55 = 5 := by kernel_rfl
theorem Try.c_fn : Try.prog.cellsOf 30 = 2 := by kernel_rfl
theorem Try.b_int : Try.prog.bytesOf 3 = 8 := by kernel_rfl
theorem Try.b_ins : Try.prog.bytesOf 59 = 80 := by kernel_rfl
theorem Try.b_blk : Try.prog.bytesOf 55 = 56 := by kernel_rfl

theorem weightsAll_mem {H : Type} {P : Program} {e : TypeId} {n : Nat} {d : DataW H} : ∀ {l : List (DataW H)}, d ∈ l → n ∈ d.weights P e → n ∈ DataW.weightsAll P e l
  | x :: r, hd, hn => by
    simp only [DataW.weightsAll, List.mem_append]
    rcases List.mem_cons.1 hd with rfl | h
    · exact .inl hn
    · exact .inr (weightsAll_mem h hn)
theorem addr_plain {w : World} {a : Addr} {v : Value} (h : w.cell? a = some v) : ∃ b o, a = ⟨b, o, none⟩ ∧ b < w.heap.size := by
  obtain ⟨b, o, spot⟩ := a
  have hs : spot = none := World.cell?_spot h
  subst hs
  exact ⟨b, o, rfl, World.block_lt_of_cell? w _ h⟩
theorem addr_plain0 {w : World} {a : Addr} {v : Value} (h : w.cell? (a.add 0) = some v) : ∃ b o, a = ⟨b, o, none⟩ ∧ b < w.heap.size := by
  have e : a.add 0 = a := by simp [Addr.add]
  rw [e] at h
  exact addr_plain h
theorem cells_plain {w : World} {base n : Nat} {a : Addr} {cs : List Value} (h : w.cells? base a n = some cs) (hn : 0 < n) : ∃ b o, a = ⟨b, o, none⟩ ∧ b < w.heap.size ∧ ∀ i v, cs[i]? = some v → w.cell? ⟨b, o + i, none⟩ = some v := by
  obtain ⟨_, hl, hc⟩ := World.cells?_some h
  have h0 := hc 0 hn
  rw [List.getElem?_eq_getElem (by omega)] at h0
  obtain ⟨b, o, rfl, hb⟩ := addr_plain h0
  refine ⟨b, o, rfl, hb, fun i v hv => ?_⟩
  have hi : i < n := by have := (List.getElem?_eq_some_iff.1 hv).1; omega
  have := hc i hi
  rw [Go.WideShapes.add_plain, hv] at this
  exact this
theorem reach_num : reachBytes = 140737488351232 := by decide

section
variable {H : Type} {enc : TypeId × Value → H} {w : World} {base : Nat} {spare : Nat → Bool} {held : Bool}
set_option maxRecDepth 100000 in
theorem ri_of {fuel : Nat} {cs : List Value} {x : DataW H × List MemPlace} (h : DataW.trod enc Try.prog w base spare held fuel 27 cs = some x) (hz : ∀ n ∈ x.1.weights Try.prog 27, n ≤ reachBytes) :
    ∃ A c xs, cs = [.slice A xs.length c] ∧ RI w A c xs ∧ (∀ v ∈ xs, wfI v) ∧ xs.length * 8 ≤ 140737488351232 := by
  rcases open_slice1 Try.underlying27 Try.c_int h with ⟨rfl, rfl⟩ | ⟨a, len, cap, m, n, V, D, Pl, rfl, hb, hl, hm, hmm, rfl, hx⟩
  · exact ⟨none, 0, [], rfl, RI.empty w, by simp, by simp⟩
  · have hlm : len ≤ m := by rw [hmm]; split <;> omega
    have hw := hz (((List.range len).map D).length + ((List.range (m - len)).map fun j => D (len + j)).length |>.mul 8) (by
      simp only [DataW.weights, Try.underlying27, Try.b_int]
      exact List.mem_cons_self ..)
    simp only [List.length_map, List.length_range] at hw
    have hw2 : (len + (m - len)) * 8 ≤ 140737488351232 := by rw [← reach_num]; exact hw
    obtain ⟨Z, hZ⟩ := choose_lt (α := Int) (n := len) (p := fun i z => w.cell? (a.add i) = some (.int .i64 z) ∧ wfI z) (fun i hi => by
      obtain ⟨h1, h2⟩ := hx i (by omega)
      obtain ⟨z, e1, e2, e3⟩ := DataW.trod_int Try.underlying3 h2
      simp only [List.cons.injEq, and_true] at e1
      exact ⟨z, by rw [h1, e1], wfI_of e3⟩)
    refine ⟨some a, cap, (List.range len).map Z, by simp, ⟨by simp; omega, by simpa using hl, fun h => by simp at h, fun j v hj => ?_⟩, ?_, by simp; omega⟩
    · have hj1 : j < len := by have := (List.getElem?_eq_some_iff.1 hj).1; simpa using this
      have hjv : v = Z j := by simpa [hj1] using hj.symm
      subst hjv
      obtain ⟨b, o, rfl, hlt⟩ := addr_plain0 (hZ 0 (by omega)).1
      exact ⟨b, o, rfl, hlt, by rw [← Go.WideShapes.add_plain]; exact (hZ j hj1).1⟩
    · intro v hv
      obtain ⟨i, hi, rfl⟩ := List.mem_map.1 hv
      exact (hZ i (by simpa using hi)).2
theorem num_of {T fuel : Nat} {c : Value} {x : DataW H × List MemPlace} (hT : Try.prog.underlying T = some (.int .i64)) (h : DataW.trod enc Try.prog w base spare held fuel T [c] = some x) : ∃ n, c = .int .i64 n ∧ wfI n := by
  obtain ⟨n, e1, _, e3⟩ := DataW.trod_int hT h
  exact ⟨n, by simpa using e1, wfI_of e3⟩
set_option maxRecDepth 100000 in
theorem ins_of {fuel : Nat} {cs : List Value} {x : DataW H × List MemPlace} (h : DataW.trod enc Try.prog w base spare held fuel 59 cs = some x) (hz : ∀ n ∈ x.1.weights Try.prog 59, n ≤ reachBytes) :
    ∃ A c i, cs = [.int .i64 i.op, .int .i64 i.dst, .int .i64 i.a, .int .i64 i.b, .int .i64 i.imm, .int .i64 i.callee, .slice A i.args.length c, .int .i64 i.many] ∧ RI w A c i.args ∧ InsW i := by
  obtain ⟨xs, n, rfl, rfl, hl, hlen, hf⟩ := DataW.trod_struct Try.underlying59 h
  rw [Try.c_ins] at hl
  match cs, hl, xs, hlen with
  | [c0, c1, c2, c3, c4, c5, c6, c7], _, [y0, y1, y2, y3, y4, y5, y6, y7], _ =>
    have h0 := hf 0 _ rfl
    have h1 := hf 1 _ rfl
    have h2 := hf 2 _ rfl
    have h3 := hf 3 _ rfl
    have h4 := hf 4 _ rfl
    have h5 := hf 5 _ rfl
    have h6 := hf 6 _ rfl
    have h7 := hf 7 _ rfl
    simp [Try.c_int, Try.c_op, Try.c_ints] at h0 h1 h2 h3 h4 h5 h6 h7
    obtain ⟨n0, rfl, w0⟩ := num_of Try.underlying22 h0
    obtain ⟨n1, rfl, w1⟩ := num_of Try.underlying3 h1
    obtain ⟨n2, rfl, w2⟩ := num_of Try.underlying3 h2
    obtain ⟨n3, rfl, w3⟩ := num_of Try.underlying3 h3
    obtain ⟨n4, rfl, w4⟩ := num_of Try.underlying3 h4
    obtain ⟨n5, rfl, w5⟩ := num_of Try.underlying3 h5
    obtain ⟨n7, rfl, w7⟩ := num_of Try.underlying3 h7
    obtain ⟨A, c, args, e6, hr, hw, hs⟩ := ri_of h6 (fun k hk => hz k (by
      simp only [DataW.weights, Try.underlying59]
      exact DataW.weights_mem_each (j := 6) rfl rfl k hk))
    simp only [List.cons.injEq, and_true] at e6
    subst e6
    exact ⟨A, c, ⟨n0, n1, n2, n3, n4, n5, args, n7⟩, rfl, hr, ⟨w0, w1, w2, w3, w4, w5, w7, hw⟩⟩
instance : Inhabited InsD := ⟨⟨0, 0, 0, 0, 0, 0, [], 0⟩⟩
instance : Inhabited BlkD := ⟨⟨[], ⟨0, 0, 0, 0⟩⟩⟩
set_option maxRecDepth 100000 in
theorem rins_of {fuel : Nat} {cs : List Value} {x : DataW H × List MemPlace} (h : DataW.trod enc Try.prog w base spare held fuel 49 cs = some x) (hz : ∀ n ∈ x.1.weights Try.prog 49, n ≤ reachBytes) :
    ∃ A c l, cs = [.slice A l.length c] ∧ RIns w A c l ∧ (∀ i ∈ l, InsW i) := by
  rcases open_slice Try.underlying49 h with ⟨rfl, rfl⟩ | ⟨a, len, cap, m, n, D, Pl, rfl, hb, hl, hm, hmm, rfl, hx⟩
  · exact ⟨none, 0, [], rfl, RIns.empty w, by simp⟩
  · have hlm : len ≤ m := by rw [hmm]; split <;> omega
    have hw := hz (((List.range len).map D).length + ((List.range (m - len)).map fun j => D (len + j)).length |>.mul 80) (by
      simp only [DataW.weights, Try.underlying49, Try.b_ins]
      exact List.mem_cons_self ..)
    simp only [List.length_map, List.length_range] at hw
    have hw2 : (len + (m - len)) * 80 ≤ 140737488351232 := by rw [← reach_num]; exact hw
    have hpl : 0 < len → ∃ b o, a = ⟨b, o, none⟩ ∧ b < w.heap.size := fun h0 => by
      obtain ⟨cs', h1, h2⟩ := hx 0 (by omega)
      rw [Try.c_ins, Nat.zero_mul] at h1
      obtain ⟨_, hl', hc⟩ := World.cells?_some h1
      have h3 := hc 0 (by omega)
      rw [List.getElem?_eq_getElem (by omega)] at h3
      have e : (a.add 0).add 0 = a := by simp [Addr.add]
      rw [e] at h3
      exact addr_plain h3
    obtain ⟨Z, hZ⟩ := choose_lt (α := InsD) (n := len) (p := fun i z => (∃ b o A' c', a = ⟨b, o, none⟩ ∧ b < w.heap.size ∧ InsAt w b (o + i * 8) A' c' z) ∧ InsW z) (fun i hi => by
      obtain ⟨cs', h1, h2⟩ := hx i (by omega)
      rw [Try.c_ins] at h1
      obtain ⟨A', c', z, rfl, hr, hwz⟩ := ins_of h2 (fun k hk => hz k (by
        simp only [DataW.weights, Try.underlying49]
        exact List.mem_cons_of_mem _ (List.mem_append_left _ (weightsAll_mem (List.mem_map.2 ⟨i, by simpa using hi, rfl⟩) hk))))
      obtain ⟨_, _, hc⟩ := World.cells?_some h1
      obtain ⟨b, o, rfl, hlt⟩ := hpl (by omega)
      have hcell : ∀ j v, [Value.int .i64 z.op, .int .i64 z.dst, .int .i64 z.a, .int .i64 z.b, .int .i64 z.imm, .int .i64 z.callee, .slice A' z.args.length c', .int .i64 z.many][j]? = some v → w.cell? ⟨b, o + i * 8 + j, none⟩ = some v := fun j v hv => by
        have hj : j < 8 := by have := (List.getElem?_eq_some_iff.1 hv).1; simpa using this
        have := hc j hj
        rw [Go.WideShapes.add_plain, Go.WideShapes.add_plain, hv] at this
        exact this
      exact ⟨z, ⟨b, o, A', c', rfl, hlt, ⟨hcell 0 _ rfl, hcell 1 _ rfl, hcell 2 _ rfl, hcell 3 _ rfl, hcell 4 _ rfl, hcell 5 _ rfl, hcell 6 _ rfl, hcell 7 _ rfl, hr⟩⟩, hwz⟩)
    refine ⟨some a, cap, (List.range len).map Z, by simp, ⟨by simp; omega, by simpa using hl, fun h => by simp at h, fun j v hj => ?_⟩, ?_⟩
    · have hj1 : j < len := by have := (List.getElem?_eq_some_iff.1 hj).1; simpa using this
      have hjv : v = Z j := by simpa [hj1] using hj.symm
      subst hjv
      obtain ⟨b, o, A', c', rfl, hlt, hat⟩ := (hZ j hj1).1
      exact ⟨b, o, A', c', rfl, hlt, hat⟩
    · intro v hv
      obtain ⟨i, hi, rfl⟩ := List.mem_map.1 hv
      exact (hZ i (by simpa using hi)).2
set_option maxRecDepth 100000 in
theorem term_of {fuel : Nat} {cs : List Value} {x : DataW H × List MemPlace} (h : DataW.trod enc Try.prog w base spare held fuel 53 cs = some x) :
    ∃ t : TermD, cs = [.int .i64 t.kind, .int .i64 t.a, .int .i64 t.t0, .int .i64 t.t1] ∧ TermW t := by
  obtain ⟨xs, n, rfl, rfl, hl, hlen, hf⟩ := DataW.trod_struct Try.underlying53 h
  rw [Try.c_term] at hl
  match cs, hl, xs, hlen with
  | [c0, c1, c2, c3], _, [y0, y1, y2], _ =>
    have h0 := hf 0 _ rfl
    have h1 := hf 1 _ rfl
    have h2 := hf 2 _ rfl
    simp [Try.c_int, Try.c_kind, Try.c_two] at h0 h1 h2
    obtain ⟨n0, rfl, w0⟩ := num_of Try.underlying50 h0
    obtain ⟨n1, rfl, w1⟩ := num_of Try.underlying3 h1
    obtain ⟨zs, m, _, _, _, hzl, hzf⟩ := DataW.trod_array Try.underlying51 h2
    match zs, hzl with
    | [z0, z1], _ =>
      have g0 := hzf 0 (by omega)
      have g1 := hzf 1 (by omega)
      simp [Try.c_int] at g0 g1
      obtain ⟨n2, rfl, w2⟩ := num_of Try.underlying3 g0
      obtain ⟨n3, rfl, w3⟩ := num_of Try.underlying3 g1
      exact ⟨⟨n0, n1, n2, n3⟩, rfl, ⟨w0, w1, w2, w3⟩⟩
set_option maxRecDepth 100000 in
theorem blk_of {fuel : Nat} {cs : List Value} {x : DataW H × List MemPlace} (h : DataW.trod enc Try.prog w base spare held fuel 55 cs = some x) (hz : ∀ n ∈ x.1.weights Try.prog 55, n ≤ reachBytes) :
    ∃ A c x, cs = [.slice A x.ins.length c, .int .i64 x.term.kind, .int .i64 x.term.a, .int .i64 x.term.t0, .int .i64 x.term.t1] ∧ RIns w A c x.ins ∧ BlkW x := by
  obtain ⟨xs, n, rfl, rfl, hl, hlen, hf⟩ := DataW.trod_struct Try.underlying55 h
  rw [Try.c_blk] at hl
  match cs, hl, xs, hlen with
  | [c0, c1, c2, c3, c4], _, [y0, y1], _ =>
    have h0 := hf 0 _ rfl
    have h1 := hf 1 _ rfl
    simp [Try.c_inss, Try.c_term] at h0 h1
    obtain ⟨A, c, l, e0, hr, hw⟩ := rins_of h0 (fun k hk => hz k (by
      simp only [DataW.weights, Try.underlying55]
      exact DataW.weights_mem_each (j := 0) rfl rfl k hk))
    obtain ⟨t, e1, ht⟩ := term_of h1
    simp only [List.cons.injEq, and_true] at e0 e1
    obtain ⟨rfl, rfl, rfl, rfl⟩ := e1
    subst e0
    exact ⟨A, c, ⟨l, t⟩, rfl, hr, ⟨hw, ht⟩⟩
set_option maxRecDepth 100000 in
theorem rblk_of {fuel : Nat} {cs : List Value} {x : DataW H × List MemPlace} (h : DataW.trod enc Try.prog w base spare held fuel 28 cs = some x) (hz : ∀ n ∈ x.1.weights Try.prog 28, n ≤ reachBytes) :
    ∃ A c l, cs = [.slice A l.length c] ∧ RBlk w A c l ∧ (∀ i ∈ l, BlkW i) := by
  rcases open_slice Try.underlying28 h with ⟨rfl, rfl⟩ | ⟨a, len, cap, m, n, D, Pl, rfl, hb, hl, hm, hmm, rfl, hx⟩
  · exact ⟨none, 0, [], rfl, RBlk.empty w, by simp⟩
  · have hlm : len ≤ m := by rw [hmm]; split <;> omega
    have hw := hz (((List.range len).map D).length + ((List.range (m - len)).map fun j => D (len + j)).length |>.mul 56) (by
      simp only [DataW.weights, Try.underlying28, Try.b_blk]
      exact List.mem_cons_self ..)
    simp only [List.length_map, List.length_range] at hw
    have hw2 : (len + (m - len)) * 56 ≤ 140737488351232 := by rw [← reach_num]; exact hw
    have hpl : 0 < len → ∃ b o, a = ⟨b, o, none⟩ ∧ b < w.heap.size := fun h0 => by
      obtain ⟨cs', h1, h2⟩ := hx 0 (by omega)
      rw [Try.c_blk, Nat.zero_mul] at h1
      obtain ⟨_, hl', hc⟩ := World.cells?_some h1
      have h3 := hc 0 (by omega)
      rw [List.getElem?_eq_getElem (by omega)] at h3
      have e : (a.add 0).add 0 = a := by simp [Addr.add]
      rw [e] at h3
      exact addr_plain h3
    obtain ⟨Z, hZ⟩ := choose_lt (α := BlkD) (n := len) (p := fun i z => (∃ b o A' c', a = ⟨b, o, none⟩ ∧ b < w.heap.size ∧ BlkAt w b (o + i * 5) A' c' z) ∧ BlkW z) (fun i hi => by
      obtain ⟨cs', h1, h2⟩ := hx i (by omega)
      rw [Try.c_blk] at h1
      obtain ⟨A', c', z, rfl, hr, hwz⟩ := blk_of h2 (fun k hk => hz k (by
        simp only [DataW.weights, Try.underlying28]
        exact List.mem_cons_of_mem _ (List.mem_append_left _ (weightsAll_mem (List.mem_map.2 ⟨i, by simpa using hi, rfl⟩) hk))))
      obtain ⟨_, _, hc⟩ := World.cells?_some h1
      obtain ⟨b, o, rfl, hlt⟩ := hpl (by omega)
      have hcell : ∀ j v, [Value.slice A' z.ins.length c', .int .i64 z.term.kind, .int .i64 z.term.a, .int .i64 z.term.t0, .int .i64 z.term.t1][j]? = some v → w.cell? ⟨b, o + i * 5 + j, none⟩ = some v := fun j v hv => by
        have hj : j < 5 := by have := (List.getElem?_eq_some_iff.1 hv).1; simpa using this
        have := hc j hj
        rw [Go.WideShapes.add_plain, Go.WideShapes.add_plain, hv] at this
        exact this
      exact ⟨z, ⟨b, o, A', c', rfl, hlt, ⟨hcell 0 _ rfl, hcell 1 _ rfl, hcell 2 _ rfl, hcell 3 _ rfl, hcell 4 _ rfl, hr⟩⟩, hwz⟩)
    refine ⟨some a, cap, (List.range len).map Z, by simp, ⟨by simp; omega, by simpa using hl, fun h => by simp at h, fun j v hj => ?_⟩, ?_⟩
    · have hj1 : j < len := by have := (List.getElem?_eq_some_iff.1 hj).1; simpa using this
      have hjv : v = Z j := by simpa [hj1] using hj.symm
      subst hjv
      obtain ⟨b, o, A', c', rfl, hlt, hat⟩ := (hZ j hj1).1
      exact ⟨b, o, A', c', rfl, hlt, hat⟩
    · intro v hv
      obtain ⟨i, hi, rfl⟩ := List.mem_map.1 hv
      exact (hZ i (by simpa using hi)).2
set_option maxRecDepth 100000 in
theorem fn_of {fuel : Nat} {cs : List Value} {x : DataW H × List MemPlace} (h : DataW.trod enc Try.prog w base spare held fuel 30 cs = some x) (hz : ∀ n ∈ x.1.weights Try.prog 30, n ≤ reachBytes) :
    ∃ A c B d f, cs = [.slice A f.params.length c, .slice B f.blocks.length d] ∧ RI w A c f.params ∧ RBlk w B d f.blocks ∧ FnW f := by
  obtain ⟨xs, n, rfl, rfl, hl, hlen, hf⟩ := DataW.trod_struct Try.underlying30 h
  rw [Try.c_fn] at hl
  match cs, hl, xs, hlen with
  | [c0, c1], _, [y0, y1], _ =>
    have h0 := hf 0 _ rfl
    have h1 := hf 1 _ rfl
    simp [Try.c_ints, Try.c_blks] at h0 h1
    obtain ⟨A, c, l, e0, hr, hw, hs⟩ := ri_of h0 (fun k hk => hz k (by
      simp only [DataW.weights, Try.underlying30]
      exact DataW.weights_mem_each (j := 0) rfl rfl k hk))
    obtain ⟨B, d, bl, e1, hb, hwb⟩ := rblk_of h1 (fun k hk => hz k (by
      simp only [DataW.weights, Try.underlying30]
      exact DataW.weights_mem_each (j := 1) rfl rfl k hk))
    simp only [List.cons.injEq, and_true] at e0 e1
    subst e0 e1
    exact ⟨A, c, B, d, ⟨l, bl⟩, rfl, hr, hb, ⟨hw, hwb⟩⟩
end
end Go.Proofs.Ytnbmmfkkjceehaa
