/- A run in memory: what it is, and what keeps it. -/
import Derived.Test.YtnbmmfkkjceehaaR6
import Derived.Test.YtnbmmfkkjceehaaR2
import Derived.Test.YtnbmmfkkjceehaaD9
namespace Go.Proofs.Ytnbmmfkkjceehaa
set_option linter.unusedSimpArgs false
set_option linter.unusedVariables false
open Go.RowKit

structure CallD where
  callee : Int
  args : List Int
structure RunD where
  vars : ValF
  block : Nat
  ins : Nat
  fin : Int
  value : Int
  mem : List Int
  answers : List Int
  calls : List CallD
  steps : Nat
structure RunH where
  A : Option Addr
  c : Nat
  B : Option Addr
  d : Nat
  M : Option Addr
  mc : Nat
  N : Option Addr
  nc : Nat
  C : Option Addr
  cc : Nat
def runC (m : Nat) (h : RunH) (f : FnD) (s : RunD) : Array Value := #[.map (some m), .int .i64 s.block, .int .i64 s.ins, .int .i64 s.fin, .int .i64 s.value, .slice h.A f.params.length h.c, .slice h.B f.blocks.length h.d, .slice h.M s.mem.length h.mc, .slice h.N s.answers.length h.nc, .slice h.C s.calls.length h.cc, .int .i64 s.steps]
def CCall (vs : List Value) (l : List CallD) (h : HdF) : Prop := vs.length = l.length * 2 ∧ ∀ j x, l[j]? = some x → vs[j * 2]? = some (.int .i64 x.callee) ∧ vs[j * 2 + 1]? = some (.slice (h j).1 x.args.length (h j).2)
theorem own_blk (A : Option Addr) (n c : Nat) : (Value.slice A n c).ownBlock = (Value.slice A 0 0).ownBlock := by cases A <;> rfl
def Foot (p m : Nat) (h : RunH) (b : Nat) : Prop := b = p ∨ b = m ∨ (Value.slice h.M 0 0).ownBlock = some b ∨ (Value.slice h.C 0 0).ownBlock = some b
def CallsAt (w : World) (base : Nat) (Q : Nat → Prop) (C : Option Addr) (cc : Nat) (l : List CallD) : Prop := ∃ vs hd, w.ownsRow base 68 2 (.slice C l.length cc) l.length vs ∧ CCall vs l hd ∧ ∀ j x, l[j]? = some x → RIQ Q w (hd j).1 (hd j).2 x.args
structure RunAt (w : World) (base p m n : Nat) (h : RunH) (f : FnD) (s : RunD) : Prop where
  cell : w.heap[p]? = some (.cells (runC m h f s) 79 (0, 0))
  bp : base ≤ p
  bm : base ≤ m
  vars : VarsAt w m n s.vars
  params : RIQ (fun b => ¬ Foot p m h b) w h.A h.c f.params
  blocks : RBlkQ (fun b => ¬ Foot p m h b) w h.B h.d f.blocks
  mem : w.ownsRow base 3 1 (.slice h.M s.mem.length h.mc) s.mem.length (s.mem.map (Value.int .i64))
  ans : RIQ (fun b => ¬ Foot p m h b) w h.N h.nc s.answers
  calls : CallsAt w base (fun b => ¬ Foot p m h b) h.C h.cc s.calls
/-- All blocks that were there are as they were. -/
theorem KeepQ.below {Q : Nat → Prop} {w w' : World} (h : Below w.heap.size w w') : KeepQ Q w w' := KeepQ.of_below h (Nat.le_refl _)
theorem CallsAt.keep {w w' : World} {base : Nat} {Q : Nat → Prop} {C : Option Addr} {cc : Nat} {l : List CallD} (h : CallsAt w base Q C cc l) (hk : KeepQ Q w w') (hb : ∀ b, (Value.slice C l.length cc).ownBlock = some b → w'.heap[b]? = w.heap[b]?) : CallsAt w' base Q C cc l := by
  obtain ⟨vs, hd, h1, h2, h3⟩ := h
  refine ⟨vs, hd, ⟨h1.1, ?_⟩, h2, fun j x hj => (h3 j x hj).keep hk⟩
  rcases h1.2 with h4 | ⟨g, cap, cur, hv, hg, hh, r⟩
  · exact .inl h4
  · refine .inr ⟨g, cap, cur, hv, hg, ?_, r⟩
    rw [hb g (by rw [hv]; rfl)]; exact hh
theorem own_keep {w w' : World} {base n sz : Nat} {e : TypeId} {v : Value} {vs : List Value} (h : w.ownsRow base e sz v n vs) (hb : ∀ b, v.ownBlock = some b → w'.heap[b]? = w.heap[b]?) : w'.ownsRow base e sz v n vs := by
  refine ⟨h.1, ?_⟩
  rcases h.2 with h4 | ⟨g, cap, cur, hv, hg, hh, r⟩
  · exact .inl h4
  · refine .inr ⟨g, cap, cur, hv, hg, ?_, r⟩
    rw [hb g (by rw [hv]; rfl)]; exact hh
theorem RunAt.lt {w : World} {base p m n : Nat} {h : RunH} {f : FnD} {s : RunD} (hr : RunAt w base p m n h f s) : ∀ b, Foot p m h b → b < w.heap.size ∧ base ≤ b := by
  intro b hb
  rcases hb with rfl | rfl | hk | hk
  · exact ⟨lt_of_block hr.cell, hr.bp⟩
  · exact ⟨hr.vars.lt, hr.bm⟩
  · have := hr.mem.lt b (by rw [own_blk]; exact hk); exact ⟨this.2, this.1⟩
  · obtain ⟨vs, hd, h1, _⟩ := hr.calls
    have := h1.lt b (by rw [own_blk]; exact hk); exact ⟨this.2, this.1⟩
theorem foot_mem {p m : Nat} {h : RunH} {n b : Nat} {c : Nat} (hb : (Value.slice h.M n c).ownBlock = some b) : Foot p m h b := .inr (.inr (.inl (by rw [own_blk] at hb; exact hb)))
theorem foot_calls {p m : Nat} {h : RunH} {n b : Nat} {c : Nat} (hb : (Value.slice h.C n c).ownBlock = some b) : Foot p m h b := .inr (.inr (.inr (by rw [own_blk] at hb; exact hb)))
theorem RunAt.below {w w' : World} {base p m n : Nat} {h : RunH} {f : FnD} {s : RunD} (hr : RunAt w base p m n h f s) (hb : Below w.heap.size w w') : RunAt w' base p m n h f s := by
  have hl := hr.lt
  have hk : ∀ b, Foot p m h b → w'.heap[b]? = w.heap[b]? := fun b hf => hb.block b (hl b hf).1
  exact ⟨(hk p (.inl rfl)).trans hr.cell, hr.bp, hr.bm, hr.vars.kept (hk m (.inr (.inl rfl))), hr.params.keep (.below hb), hr.blocks.keep (.below hb), own_keep hr.mem (fun b e => hk b (foot_mem e)), hr.ans.keep (.below hb), hr.calls.keep (.below hb) (fun b e => hk b (foot_calls e))⟩
/-- Only blocks outside of the run's own, and what it reads, have changed. -/
theorem RunAt.far {w w' : World} {base p m n g : Nat} {h : RunH} {f : FnD} {s : RunD} (hr : RunAt w base p m n h f s) (hk : ∀ b, b < w.heap.size → w'.heap[b]? = w.heap[b]?) (hsz : w.heap.size ≤ w'.heap.size) : RunAt w' base p m n h f s := by
  have hl := hr.lt
  have hkf : ∀ b, Foot p m h b → w'.heap[b]? = w.heap[b]? := fun b hf => hk b (hl b hf).1
  have hq : KeepQ (fun b => ¬ Foot p m h b) w w' := ⟨hsz, fun b _ hb => hk b hb⟩
  exact ⟨(hkf p (.inl rfl)).trans hr.cell, hr.bp, hr.bm, hr.vars.kept (hkf m (.inr (.inl rfl))), hr.params.keep hq, hr.blocks.keep hq, own_keep hr.mem (fun b e => hkf b (foot_mem e)), hr.ans.keep hq, hr.calls.keep hq (fun b e => hkf b (foot_calls e))⟩
theorem RunAt.at {w : World} {base p m n : Nat} {h : RunH} {f : FnD} {s : RunD} (hr : RunAt w base p m n h f s) (j : Nat) (v : Value) (hj : (runC m h f s)[j]? = some v) : w.cell? ⟨p, j, none⟩ = some v := by
  rw [cell_of_row w p j _ 79 (0, 0) hr.cell]; exact hj
theorem RunAt.free {w : World} {base p m n : Nat} {h : RunH} {f : FnD} {s : RunD} (hr : RunAt w base p m n h f s) (j : Nat) : w.frozen? ⟨p, j, none⟩ = false := frozen_of_row w p j _ 79 hr.cell
theorem RunAt.c0 {w : World} {base p m n : Nat} {h : RunH} {f : FnD} {s : RunD} (hr : RunAt w base p m n h f s) : w.cell? ⟨p, 0, none⟩ = some (.map (some m)) := hr.at 0 _ rfl
theorem RunAt.c1 {w : World} {base p m n : Nat} {h : RunH} {f : FnD} {s : RunD} (hr : RunAt w base p m n h f s) : w.cell? ⟨p, 1, none⟩ = some (.int .i64 s.block) := hr.at 1 _ rfl
theorem RunAt.c2 {w : World} {base p m n : Nat} {h : RunH} {f : FnD} {s : RunD} (hr : RunAt w base p m n h f s) : w.cell? ⟨p, 2, none⟩ = some (.int .i64 s.ins) := hr.at 2 _ rfl
theorem RunAt.c3 {w : World} {base p m n : Nat} {h : RunH} {f : FnD} {s : RunD} (hr : RunAt w base p m n h f s) : w.cell? ⟨p, 3, none⟩ = some (.int .i64 s.fin) := hr.at 3 _ rfl
theorem RunAt.c4 {w : World} {base p m n : Nat} {h : RunH} {f : FnD} {s : RunD} (hr : RunAt w base p m n h f s) : w.cell? ⟨p, 4, none⟩ = some (.int .i64 s.value) := hr.at 4 _ rfl
theorem RunAt.c5 {w : World} {base p m n : Nat} {h : RunH} {f : FnD} {s : RunD} (hr : RunAt w base p m n h f s) : w.cell? ⟨p, 5, none⟩ = some (.slice h.A f.params.length h.c) := hr.at 5 _ rfl
theorem RunAt.c6 {w : World} {base p m n : Nat} {h : RunH} {f : FnD} {s : RunD} (hr : RunAt w base p m n h f s) : w.cell? ⟨p, 6, none⟩ = some (.slice h.B f.blocks.length h.d) := hr.at 6 _ rfl
theorem RunAt.c7 {w : World} {base p m n : Nat} {h : RunH} {f : FnD} {s : RunD} (hr : RunAt w base p m n h f s) : w.cell? ⟨p, 7, none⟩ = some (.slice h.M s.mem.length h.mc) := hr.at 7 _ rfl
theorem RunAt.c8 {w : World} {base p m n : Nat} {h : RunH} {f : FnD} {s : RunD} (hr : RunAt w base p m n h f s) : w.cell? ⟨p, 8, none⟩ = some (.slice h.N s.answers.length h.nc) := hr.at 8 _ rfl
theorem RunAt.c9 {w : World} {base p m n : Nat} {h : RunH} {f : FnD} {s : RunD} (hr : RunAt w base p m n h f s) : w.cell? ⟨p, 9, none⟩ = some (.slice h.C s.calls.length h.cc) := hr.at 9 _ rfl
theorem RunAt.c10 {w : World} {base p m n : Nat} {h : RunH} {f : FnD} {s : RunD} (hr : RunAt w base p m n h f s) : w.cell? ⟨p, 10, none⟩ = some (.int .i64 s.steps) := hr.at 10 _ rfl
end Go.Proofs.Ytnbmmfkkjceehaa
