/- What a write does to a run in memory. -/
import Derived.Test.YtnbmmfkkjceehaaR10
import Derived.Maps.AppendAt
namespace Go.Proofs.Ytnbmmfkkjceehaa
set_option linter.unusedSimpArgs false
set_option linter.unusedVariables false
open Go.RowKit

/-- What a function of the run turns: blocks of the run's own, and new ones. -/
structure Turn (w w' : World) (p m : Nat) (h h' : RunH) : Prop where
  os : w'.os = w.os
  tape : w'.tape = w.tape
  output : w'.output = w.output
  size : w.heap.size ≤ w'.heap.size
  keep : ∀ b, b < w.heap.size → ¬ Foot p m h b → w'.heap[b]? = w.heap[b]?
  foot : ∀ b, Foot p m h' b → Foot p m h b ∨ w.heap.size ≤ b
theorem Turn.below {w w' : World} {p m : Nat} {h : RunH} (hb : Below w.heap.size w w') : Turn w w' p m h h := ⟨hb.os, hb.tape, hb.output, hb.size, fun b hlt _ => hb.block b hlt, fun b hf => .inl hf⟩
theorem Turn.trans {w w1 w2 : World} {p m : Nat} {h h1 h2 : RunH} (t : Turn w w1 p m h h1) (u : Turn w1 w2 p m h1 h2) : Turn w w2 p m h h2 :=
  ⟨u.os.trans t.os, u.tape.trans t.tape, u.output.trans t.output, Nat.le_trans t.size u.size, fun b hb hf => (u.keep b (Nat.lt_of_lt_of_le hb t.size) (fun h1 => (t.foot b h1).elim hf (fun h => by omega))).trans (t.keep b hb hf),
    fun b hf => (u.foot b hf).elim (fun h1 => t.foot b h1) (fun h => .inr (Nat.le_trans t.size h))⟩
theorem Turn.toBelow {w w' : World} {base p m n : Nat} {h h' : RunH} {f : FnD} {s : RunD} (t : Turn w w' p m h h') (hr : RunAt w base p m n h f s) (hb : base ≤ w.heap.size) : Below base w w' :=
  ⟨t.os, t.tape, t.output, t.size, fun b hlt => t.keep b (by omega) (fun hf => by have := (hr.lt b hf).2; omega)⟩
theorem KeepQ.weak {Q Q' : Nat → Prop} {w w' : World} (h : KeepQ Q w w') (hq : ∀ b, Q' b → Q b) : KeepQ Q' w w' := ⟨h.size, fun b hb hlt => h.block b (hq b hb) hlt⟩
theorem RIQ.turn {Q Q' : Nat → Prop} {w w' : World} {A : Option Addr} {c : Nat} {xs : List Int} (h : RIQ Q w A c xs) (hq : ∀ b, b < w.heap.size → Q b → Q' b) (hk : KeepQ Q w w') : RIQ Q' w' A c xs :=
  ((h.imp (Q' := fun b => Q b ∧ Q' b) (fun b hb q => ⟨q, hq b hb q⟩)).keep (hk.weak (fun b q => q.1))).imp (fun b _ q => q.2)
theorem RBlkQ.turn {Q Q' : Nat → Prop} {w w' : World} {A : Option Addr} {c : Nat} {l : List BlkD} (h : RBlkQ Q w A c l) (hq : ∀ b, b < w.heap.size → Q b → Q' b) (hk : KeepQ Q w w') : RBlkQ Q' w' A c l :=
  ((h.imp (Q' := fun b => Q b ∧ Q' b) (fun b hb q => ⟨q, hq b hb q⟩)).keep (hk.weak (fun b q => q.1))).imp (fun b _ q => q.2)
theorem VarsAt.kind {w : World} {m n : Nat} {s : ValF} (h : VarsAt w m n s) : ∃ es clock, w.heap[m]? = some (.map es clock) := by
  obtain ⟨D, ⟨es, clock, h1, _⟩, _⟩ := h
  exact ⟨es, clock, h1⟩
theorem own_typed {w : World} {base n sz g : Nat} {e : TypeId} {v : Value} {vs : List Value} (h : w.ownsRow base e sz v n vs) (hg : v.ownBlock = some g) : ∃ cs, w.heap[g]? = some (.cells cs e (0, 0)) := by
  rcases h.2 with ⟨rfl, _⟩ | ⟨g', cap, cur, rfl, _, hh, _⟩
  · simp [Value.ownBlock] at hg
  · have : g' = g := by simpa [Value.ownBlock] using hg
    subst this; exact ⟨cur, hh⟩
/-- The four blocks of a run are four. -/
theorem RunAt.apart {w : World} {base p m n : Nat} {h : RunH} {f : FnD} {s : RunD} (hr : RunAt w base p m n h f s) :
    p ≠ m ∧ (∀ g, (Value.slice h.M 0 0).ownBlock = some g → g ≠ p ∧ g ≠ m) ∧ (∀ g, (Value.slice h.C 0 0).ownBlock = some g → g ≠ p ∧ g ≠ m) ∧ (∀ g, (Value.slice h.M 0 0).ownBlock = some g → (Value.slice h.C 0 0).ownBlock ≠ some g) := by
  obtain ⟨es, clock, hm⟩ := hr.vars.kind
  have hp := hr.cell
  obtain ⟨vs, hd, hc, _⟩ := hr.calls
  have hM : ∀ g, (Value.slice h.M 0 0).ownBlock = some g → ∃ cs, w.heap[g]? = some (.cells cs 3 (0, 0)) := fun g hg => own_typed hr.mem (by rw [own_blk]; exact hg)
  have hC : ∀ g, (Value.slice h.C 0 0).ownBlock = some g → ∃ cs, w.heap[g]? = some (.cells cs 68 (0, 0)) := fun g hg => own_typed hc (by rw [own_blk]; exact hg)
  refine ⟨(fun e => by rw [e, hm] at hp; cases hp), fun g hg => ?_, fun g hg => ?_, fun g hg hg2 => ?_⟩
  · obtain ⟨cs, h1⟩ := hM g hg
    exact ⟨(fun e => by rw [e, hp] at h1; simp at h1), (fun e => by rw [e, hm] at h1; cases h1)⟩
  · obtain ⟨cs, h1⟩ := hC g hg
    exact ⟨(fun e => by rw [e, hp] at h1; simp at h1), (fun e => by rw [e, hm] at h1; cases h1)⟩
  · obtain ⟨cs, h1⟩ := hM g hg
    obtain ⟨cs2, h2⟩ := hC g hg2
    rw [h1] at h2; simp at h2
/-- A cell of the run's own struct. -/
theorem RunAt.put {w : World} {base p m n : Nat} {h h' : RunH} {f : FnD} {s s' : RunD} (hr : RunAt w base p m n h f s) (j : Nat) (v : Value) (hC : (runC m h f s).setIfInBounds j v = runC m h' f s')
    (e1 : s'.vars = s.vars) (e2 : s'.mem = s.mem) (e3 : s'.calls = s.calls) (e4 : h'.A = h.A ∧ h'.c = h.c ∧ h'.B = h.B ∧ h'.d = h.d ∧ h'.M = h.M ∧ h'.mc = h.mc ∧ h'.C = h.C ∧ h'.cc = h.cc)
    (ha : RIQ (fun b => ¬ Foot p m h b) w h'.N h'.nc s'.answers) : RunAt (w.setCell ⟨p, j, none⟩ v) base p m n h' f s' ∧ Turn w (w.setCell ⟨p, j, none⟩ v) p m h h' := by
  obtain ⟨A, c, B, d, M, mc, N, nc, C, cc⟩ := h
  obtain ⟨A', c', B', d', M', mc', N', nc', C', cc'⟩ := h'
  obtain ⟨rfl, rfl, rfl, rfl, rfl, rfl, rfl, rfl⟩ := e4
  have hap := hr.apart
  have hF : ∀ b, Foot p m ⟨A', c', B', d', M', mc', N', nc', C', cc'⟩ b = Foot p m ⟨A', c', B', d', M', mc', N, nc, C', cc'⟩ b := fun b => rfl
  have ho : ∀ b, b ≠ p → (w.setCell ⟨p, j, none⟩ v).heap[b]? = w.heap[b]? := fun b hb => Below.heap_setCell _ _ _ _ hb
  have hk : KeepQ (fun b => ¬ Foot p m ⟨A', c', B', d', M', mc', N, nc, C', cc'⟩ b) w (w.setCell ⟨p, j, none⟩ v) := ⟨by simp [World.setCell], fun b hb _ => ho b (fun e => hb (.inl e))⟩
  refine ⟨⟨?_, hr.bp, hr.bm, ?_, hr.params.keep hk, hr.blocks.keep hk, ?_, ha.keep hk, ?_⟩, ⟨rfl, rfl, rfl, by simp [World.setCell], fun b _ hb => ho b (fun e => hb (.inl e)), fun b hf => .inl hf⟩⟩
  · have := heap_setCell_same w p j _ 79 v hr.cell
    rw [hC] at this; exact this
  · rw [e1]; exact hr.vars.kept (ho m (Ne.symm hap.1))
  · rw [e2]; exact own_keep hr.mem (fun b hb => ho b (hap.2.1 b (by rw [own_blk] at hb; exact hb)).1)
  · rw [e3]; exact hr.calls.keep hk (fun b hb => ho b (hap.2.2.1 b (by rw [own_blk] at hb; exact hb)).1)
/-- A variable's value. -/
theorem RunAt.varPut {w w' : World} {base p m n : Nat} {h : RunH} {f : FnD} {s : RunD} (hr : RunAt w base p m n h f s) (x v : Int) (hv : VarsAt w' m (n + 1) (setV s.vars x v)) (hg : w.grownBy w' (some m)) :
    RunAt w' base p m (n + 1) h f { s with vars := setV s.vars x v } ∧ Turn w w' p m h h := by
  have hap := hr.apart
  have hl := hr.lt
  have ho : ∀ b, b < w.heap.size → b ≠ m → w'.heap[b]? = w.heap[b]? := fun b hb hne => hg.block b hb (fun e => hne (by injection e))
  have hk : KeepQ (fun b => ¬ Foot p m h b) w w' := ⟨hg.size, fun b hb hlt => ho b hlt (fun e => hb (.inr (.inl e)))⟩
  refine ⟨⟨(ho p (hl p (.inl rfl)).1 hap.1).trans hr.cell, hr.bp, hr.bm, hv, hr.params.keep hk, hr.blocks.keep hk, ?_, hr.ans.keep hk, ?_⟩, ⟨hg.os, hg.tape, hg.output, hg.size, fun b hlt hb => ho b hlt (fun e => hb (.inr (.inl e))), fun b hf => .inl hf⟩⟩
  · exact own_keep hr.mem (fun b hb => ho b (hl b (foot_mem hb)).1 (hap.2.1 b (by rw [own_blk] at hb; exact hb)).2)
  · exact hr.calls.keep hk (fun b hb => ho b (hl b (foot_calls hb)).1 (hap.2.2.1 b (by rw [own_blk] at hb; exact hb)).2)
/-- A word of the memory. -/
theorem RunAt.memPut {w : World} {base p m n g k : Nat} {h : RunH} {f : FnD} {s : RunD} (hr : RunAt w base p m n h f s) (hM : h.M = some ⟨g, 0, none⟩) (v : Int) :
    RunAt (w.setCell ⟨g, k, none⟩ (.int .i64 v)) base p m n h f { s with mem := s.mem.set k v } ∧ Turn w (w.setCell ⟨g, k, none⟩ (.int .i64 v)) p m h h := by
  have hap := hr.apart
  have hg1 : (Value.slice h.M 0 0).ownBlock = some g := by rw [hM]; rfl
  have ho : ∀ b, b ≠ g → (w.setCell ⟨g, k, none⟩ (.int .i64 v)).heap[b]? = w.heap[b]? := fun b hb => Below.heap_setCell _ _ _ _ hb
  have hfg : Foot p m h g := .inr (.inr (.inl hg1))
  have hk : KeepQ (fun b => ¬ Foot p m h b) w (w.setCell ⟨g, k, none⟩ (.int .i64 v)) := ⟨by simp [World.setCell], fun b hb _ => ho b (fun e => hb (e ▸ hfg))⟩
  have hgp := hap.2.1 g hg1
  refine ⟨⟨?_, hr.bp, hr.bm, hr.vars.kept (ho m (Ne.symm hgp.2)), hr.params.keep hk, hr.blocks.keep hk, ?_, hr.ans.keep hk, ?_⟩, ⟨rfl, rfl, rfl, by simp [World.setCell], fun b _ hb => ho b (fun e => hb (e ▸ hfg)), fun b hf => .inl hf⟩⟩
  · rw [ho p (Ne.symm hgp.1), hr.cell]; simp [runC]
  · have h1 := hr.mem
    rw [hM] at h1 ⊢
    have := (h1.stored k (.int .i64 v)).1
    simpa [List.map_set] using this
  · exact hr.calls.keep hk (fun b hb => ho b (fun e => by rw [own_blk, e] at hb; exact hap.2.2.2 g hg1 hb))
/-- A call that is noted: first the row grows, then its head is stored. -/
theorem RunAt.callPut {w w' : World} {base p m n : Nat} {h : RunH} {f : FnD} {s : RunD} (hr : RunAt w base p m n h f s) (x : CallD) (A6 : Option Addr) (c6 : Nat) (ha : RIQ (fun b => ¬ Foot p m h b) w A6 c6 x.args)
    (vs : List Value) (hd : HdF) (hcc : CCall vs s.calls hd) (hq : ∀ j y, s.calls[j]? = some y → RIQ (fun b => ¬ Foot p m h b) w (hd j).1 (hd j).2 y.args) (C' : Option Addr) (cc' : Nat)
    (ho : w'.ownsRow base 68 2 (.slice C' (s.calls.length + 1) cc') (s.calls.length + 1) (vs ++ [.int .i64 x.callee, .slice A6 x.args.length c6])) (hg : w.grownBy w' (Value.slice h.C s.calls.length h.cc).ownBlock)
    (hloc : (Value.slice C' (s.calls.length + 1) cc').ownBlock = (Value.slice h.C s.calls.length h.cc).ownBlock ∨ (Value.slice C' (s.calls.length + 1) cc').ownBlock = some w.heap.size) :
    RunAt (w'.setCell ⟨p, 9, none⟩ (.slice C' (s.calls.length + 1) cc')) base p m n { h with C := C', cc := cc' } f { s with calls := s.calls ++ [x] } ∧ Turn w (w'.setCell ⟨p, 9, none⟩ (.slice C' (s.calls.length + 1) cc')) p m h { h with C := C', cc := cc' } := by
  have hap := hr.apart
  have hl := hr.lt
  rw [own_blk] at hg hloc
  rw [own_blk h.C] at hloc
  have hoc : ∀ b, b < w.heap.size → (Value.slice h.C 0 0).ownBlock ≠ some b → w'.heap[b]? = w.heap[b]? := fun b hb hne => hg.block b hb (fun e => hne e.symm)
  have ho2 : ∀ b, b ≠ p → (w'.setCell ⟨p, 9, none⟩ (.slice C' (s.calls.length + 1) cc')).heap[b]? = w'.heap[b]? := fun b hb => Below.heap_setCell _ _ _ _ hb
  have hpl := (hl p (.inl rfl)).1
  have hml := (hl m (.inr (.inl rfl))).1
  have hpC : (Value.slice h.C 0 0).ownBlock ≠ some p := fun e => (hap.2.2.1 p e).1 rfl
  have hmC : (Value.slice h.C 0 0).ownBlock ≠ some m := fun e => (hap.2.2.1 m e).2 rfl
  have hk : KeepQ (fun b => ¬ Foot p m h b) w (w'.setCell ⟨p, 9, none⟩ (.slice C' (s.calls.length + 1) cc')) := ⟨by simpa [World.setCell] using hg.size, fun b hb hlt => by
    rw [ho2 b (fun e => hb (.inl e))]
    exact hoc b hlt (fun e => hb (.inr (.inr (.inr e))))⟩
  have hfoot : ∀ b, Foot p m { h with C := C', cc := cc' } b → Foot p m h b ∨ w.heap.size ≤ b := fun b hb => by
    rcases hb with hb | hb | hb | hb
    · exact .inl (.inl hb)
    · exact .inl (.inr (.inl hb))
    · exact .inl (.inr (.inr (.inl hb)))
    · rcases hloc with h1 | h1
      · refine .inl (.inr (.inr (.inr ?_)))
        have : (Value.slice C' 0 0).ownBlock = some b := hb
        rw [h1] at this
        exact this
      · have : (Value.slice C' 0 0).ownBlock = some b := hb
        rw [h1] at this
        injection this with this
        exact .inr (by omega)
  have himp : ∀ b, b < w.heap.size → ¬ Foot p m h b → ¬ Foot p m { h with C := C', cc := cc' } b := fun b hb hn hf => (hfoot b hf).elim hn (fun h => by omega)
  have hpC' : (Value.slice C' (s.calls.length + 1) cc').ownBlock ≠ some p := fun e => by
    rcases hloc with h1 | h1
    · rw [own_blk, h1] at e; exact hpC e
    · rw [own_blk, h1] at e; injection e with e; omega
  refine ⟨⟨?_, hr.bp, hr.bm, ?_, hr.params.turn himp hk, hr.blocks.turn himp hk, ?_, hr.ans.turn himp hk, ?_⟩, ⟨hg.os, hg.tape, hg.output, hk.size, fun b hlt hb => hk.block b hb hlt, hfoot⟩⟩
  · have h1 : w'.heap[p]? = some (.cells (runC m h f s) 79 (0, 0)) := (hoc p hpl hpC).trans hr.cell
    have h2 := heap_setCell_same w' p 9 _ 79 (.slice C' (s.calls.length + 1) cc') h1
    rw [h2]
    simp [runC]
  · exact hr.vars.kept ((ho2 m (Ne.symm hap.1)).trans (hoc m hml hmC))
  · refine own_keep hr.mem (fun b hb => ?_)
    have hb' : (Value.slice h.M 0 0).ownBlock = some b := by rw [own_blk] at hb; exact hb
    rw [ho2 b (hap.2.1 b hb').1]
    exact hoc b (hl b (.inr (.inr (.inl hb')))).1 (hap.2.2.2 b hb')
  · refine ⟨vs ++ [.int .i64 x.callee, .slice A6 x.args.length c6], updH hd s.calls.length (A6, c6), ?_, ?_, ?_⟩
    · have := own_keep (w' := w'.setCell ⟨p, 9, none⟩ (.slice C' (s.calls.length + 1) cc')) ho (fun b hb => ho2 b (fun e => hpC' (e ▸ hb)))
      simpa using this
    · refine ⟨by simp [hcc.1]; omega, fun j y hj => ?_⟩
      by_cases e : j < s.calls.length
      · rw [List.getElem?_append_left e] at hj
        have := hcc.2 j y hj
        have hlen := hcc.1
        rw [List.getElem?_append_left (by omega), List.getElem?_append_left (by omega)]
        have hne : j ≠ s.calls.length := by omega
        simpa [updH, hne] using this
      · have hjl := (List.getElem?_eq_some_iff.1 hj).1
        have : j = s.calls.length := by simp at hjl; omega
        subst this
        simp at hj
        subst hj
        have hlen := hcc.1
        rw [List.getElem?_append_right (by omega), List.getElem?_append_right (by omega)]
        simp [updH, hlen]
    · intro j y hj
      by_cases e : j < s.calls.length
      · rw [List.getElem?_append_left e] at hj
        have hne : j ≠ s.calls.length := by omega
        have := (hq j y hj).turn himp hk
        simpa [updH, hne] using this
      · have hjl := (List.getElem?_eq_some_iff.1 hj).1
        have : j = s.calls.length := by simp at hjl; omega
        subst this
        simp at hj
        subst hj
        have := ha.turn himp hk
        simpa [updH] using this
end Go.Proofs.Ytnbmmfkkjceehaa
