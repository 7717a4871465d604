/- The plain law of RunAgain: fewer steps are the first of the same steps; more answers change nothing that was answered. No program in sight. -/
import Derived.Test.YtnbmmfkkjceehaaR23
namespace Go.Proofs.Ytnbmmfkkjceehaa
set_option linter.unusedSimpArgs false
set_option linter.unusedVariables false
open Go.RowKit

theorem stepR_fin {f : FnD} {s : RunD} (h : s.fin = 0) : stepR f s = (goesTo (nextR f { s with steps := s.steps + 1 }).1 (nextR f { s with steps := s.steps + 1 }).2, true) := by unfold stepR; rw [if_pos h]
theorem nextR_steps (f : FnD) (s : RunD) : (nextR f s).1.steps = s.steps := by
  unfold nextR
  split
  · exact (insR_same _ _).2.2.2.2
  · rfl
theorem goesTo_steps (s : RunD) (e : NextD) : (goesTo s e).steps = s.steps := by cases e <;> rfl
theorem goesTo_calls (s : RunD) (e : NextD) : (goesTo s e).calls = s.calls ∧ (goesTo s e).answers = s.answers := by cases e <;> exact ⟨rfl, rfl⟩
theorem stepR_steps {f : FnD} {s : RunD} (h : s.fin = 0) : (stepR f s).1.steps = s.steps + 1 := by
  rw [stepR_fin h]
  show (goesTo _ _).steps = _
  rw [goesTo_steps, nextR_steps]
/-- The number of steps tells where a run stands. -/
theorem itR_steps (f : FnD) (s : RunD) (h0 : s.steps = 0) : ∀ k, (itR f s k).steps ≤ k ∧ itR f s (itR f s k).steps = itR f s k ∧ ((itR f s k).fin = 0 → (itR f s k).steps = k)
  | 0 => ⟨by show s.steps ≤ 0; omega, by show itR f s s.steps = s; rw [h0]; rfl, fun _ => h0⟩
  | k + 1 => by
    obtain ⟨h1, h2, h3⟩ := itR_steps f s h0 k
    by_cases hf : (itR f s k).fin = 0
    · have e : (itR f s (k + 1)).steps = k + 1 := by
        show (stepR f (itR f s k)).1.steps = _
        rw [stepR_steps hf, h3 hf]
      exact ⟨by omega, by rw [e], fun _ => e⟩
    · have e : itR f s (k + 1) = itR f s k := itR_stop hf 1
      rw [e]
      exact ⟨by omega, h2, fun h => absurd h hf⟩
theorem itR_late {f : FnD} {s : RunD} (h0 : s.steps = 0) {j k : Nat} (hjk : j ≤ k) (h : (itR f s k).steps < j) : itR f s j = itR f s k := by
  obtain ⟨h1, h2, h3⟩ := itR_steps f s h0 k
  have hf : (itR f s k).fin ≠ 0 := fun e => by have := h3 e; omega
  have := itR_stop (f := f) (s := s) (k := (itR f s k).steps) (by rw [h2]; exact hf) (j - (itR f s k).steps)
  rw [h2] at this
  rw [← this]; congr 1; omega
theorem itR_early {f : FnD} {s : RunD} (h0 : s.steps = 0) {j k : Nat} (hjk : j ≤ k) (h : j ≤ (itR f s k).steps) : (itR f s j).steps = j := by
  obtain ⟨h1, h2, h3⟩ := itR_steps f s h0 j
  by_cases hf : (itR f s j).fin = 0
  · exact h3 hf
  · have := itR_stop (f := f) (s := s) (k := j) hf (k - j)
    rw [show j + (k - j) = k by omega] at this
    rw [this] at h; omega
theorem insV0_calls (s : RunD) (i : InsD) : s.calls <+: (insV0 s i).1.calls := by
  unfold insV0
  repeat' split
  all_goals first
    | exact List.prefix_refl _
    | (unfold callR; split <;> exact List.prefix_append _ _)
theorem insR_calls (s : RunD) (i : InsD) : s.calls <+: (insR s i).1.calls := by
  have := insV0_calls s i
  unfold insR
  repeat' split
  all_goals exact this
theorem stepR_calls (f : FnD) (s : RunD) : s.calls <+: (stepR f s).1.calls := by
  by_cases h : s.fin = 0
  · rw [stepR_fin h]
    show _ <+: (goesTo _ _).calls
    rw [(goesTo_calls _ _).1]
    unfold nextR
    split
    · exact insR_calls { s with steps := s.steps + 1 } _
    · exact List.prefix_refl _
  · rw [stepR_stop h]; exact List.prefix_refl _
theorem itR_calls (f : FnD) (s : RunD) (j : Nat) : ∀ k, (itR f s j).calls <+: (itR f s (j + k)).calls
  | 0 => List.prefix_refl _
  | k + 1 => (itR_calls f s j k).trans (stepR_calls f _)
/-! ### more answers -/
def ext (ex : List Int) (s : RunD) : RunD := { s with answers := s.answers ++ ex }
theorem insV0_ext (ex : List Int) (s : RunD) (i : InsD) (h : s.answers ≠ [] ∨ i.op ≠ 13) : insV0 (ext ex s) i = (ext ex (insV0 s i).1, (insV0 s i).2) ∧ (insV0 s i).1.answers.length + (insV0 s i).1.calls.length = s.answers.length + s.calls.length := by
  by_cases h1 : i.op = 1
  · simp [insV0, h1, ext]
  by_cases h14 : i.op = 14
  · simp [insV0, h14, ext]
  by_cases h13 : i.op = 13
  · have hne := h.resolve_right (fun e => e h13)
    obtain ⟨a, r, hr⟩ := List.exists_cons_of_ne_nil hne
    have e1 : ∀ s : RunD, insV0 s i = callR s i := fun s => by unfold insV0; rw [if_neg h1, if_neg h14, if_pos h13]
    rw [e1, e1]
    unfold callR ext callD
    simp only [hr, List.cons_append]
    constructor
    · first | trivial | rfl
    · simp; omega
  by_cases h11 : i.op = 11
  · have e : ∀ t : RunD, insV0 t i = if 0 ≤ wordI t.vars i ∧ wordI t.vars i < t.mem.length then (t, t.mem.getD (wordI t.vars i).toNat 0, true) else (t, i.imm, false) := fun t => by unfold insV0; rw [if_neg h1, if_neg h14, if_neg h13, if_pos h11]
    by_cases hq : 0 ≤ wordI s.vars i ∧ wordI s.vars i < s.mem.length
    · rw [e s, e (ext ex s), if_pos hq, if_pos (show 0 ≤ wordI (ext ex s).vars i ∧ wordI (ext ex s).vars i < (ext ex s).mem.length from hq)]; exact ⟨rfl, rfl⟩
    · rw [e s, e (ext ex s), if_neg hq, if_neg (show ¬ (0 ≤ wordI (ext ex s).vars i ∧ wordI (ext ex s).vars i < (ext ex s).mem.length) from hq)]; exact ⟨rfl, rfl⟩
  by_cases h12 : i.op = 12
  · have e : ∀ t : RunD, insV0 t i = if 0 ≤ wordI t.vars i ∧ wordI t.vars i < t.mem.length then ({ t with mem := t.mem.set (wordI t.vars i).toNat (getV t.vars i.b) }, getV t.vars i.b, true) else (t, i.imm, false) := fun t => by unfold insV0; rw [if_neg h1, if_neg h14, if_neg h13, if_neg h11, if_pos h12]
    by_cases hq : 0 ≤ wordI s.vars i ∧ wordI s.vars i < s.mem.length
    · rw [e s, e (ext ex s), if_pos hq, if_pos (show 0 ≤ wordI (ext ex s).vars i ∧ wordI (ext ex s).vars i < (ext ex s).mem.length from hq)]; exact ⟨rfl, rfl⟩
    · rw [e s, e (ext ex s), if_neg hq, if_neg (show ¬ (0 ≤ wordI (ext ex s).vars i ∧ wordI (ext ex s).vars i < (ext ex s).mem.length) from hq)]; exact ⟨rfl, rfl⟩
  · have e : ∀ t : RunD, insV0 t i = (t, (calcI i.op (getV t.vars i.a) (getV t.vars i.b)).1, (calcI i.op (getV t.vars i.a) (getV t.vars i.b)).2) := fun t => by unfold insV0; rw [if_neg h1, if_neg h14, if_neg h13, if_neg h11, if_neg h12]
    rw [e s, e (ext ex s)]; exact ⟨rfl, rfl⟩
theorem insR_ext (ex : List Int) (s : RunD) (i : InsD) (h : s.answers ≠ [] ∨ i.op ≠ 13) : insR (ext ex s) i = (ext ex (insR s i).1, (insR s i).2) ∧ (insR s i).1.answers.length + (insR s i).1.calls.length = s.answers.length + s.calls.length := by
  obtain ⟨h1, h2⟩ := insV0_ext ex s i h
  unfold insR
  rw [h1]
  simp only
  split
  · split
    · exact ⟨rfl, h2⟩
    · exact ⟨rfl, h2⟩
  · exact ⟨rfl, h2⟩
theorem insR_full (s : RunD) (i : InsD) (h : s.answers = []) (h13 : i.op = 13) : (insR s i).1.calls.length = s.calls.length + 1 := by
  have e : insV0 s i = callR s i := by unfold insV0; rw [if_neg (by omega), if_neg (by omega), if_pos h13]
  unfold insR
  rw [e]
  unfold callR
  rw [h]
  simp [callD]
theorem stepR_ext (ex : List Int) (f : FnD) (s : RunD) (N : Nat) (hN : s.answers.length + s.calls.length = N) :
    N < (stepR f s).1.calls.length ∨ (stepR f (ext ex s)).1 = ext ex (stepR f s).1 ∧ (stepR f s).1.answers.length + (stepR f s).1.calls.length = N := by
  by_cases hf : s.fin = 0
  · have hf' : (ext ex s).fin = 0 := hf
    rw [stepR_fin hf, stepR_fin hf']
    have e0 : { ext ex s with steps := (ext ex s).steps + 1 } = ext ex { s with steps := s.steps + 1 } := rfl
    rw [e0]
    obtain ⟨t, ht⟩ : ∃ t : RunD, t = { s with steps := s.steps + 1 } := ⟨_, rfl⟩
    have hNt : t.answers.length + t.calls.length = N := by rw [ht]; exact hN
    rw [← ht]
    simp only [goesTo_calls]
    have hg : ∀ (r : RunD) (e : NextD), goesTo (ext ex r) e = ext ex (goesTo r e) := fun r e => by cases e <;> rfl
    unfold nextR
    have e1 : (ext ex t).ins = t.ins := rfl
    have e2 : (ext ex t).block = t.block := rfl
    have e3 : (ext ex t).vars = t.vars := rfl
    rw [e1, e2, e3]
    split
    · by_cases hc : t.answers ≠ [] ∨ ((f.blocks.getD t.block dBlk).ins.getD t.ins dIns).op ≠ 13
      · obtain ⟨h1, h2⟩ := insR_ext ex t _ hc
        rw [h1]
        exact .inr ⟨hg _ _, by rw [h2]; exact hNt⟩
      · have hc1 : t.answers = [] := Classical.byContradiction (fun h => hc (.inl h))
        have hc2 : ((f.blocks.getD t.block dBlk).ins.getD t.ins dIns).op = 13 := Classical.byContradiction (fun h => hc (.inr h))
        refine .inl ?_
        rw [insR_full t _ hc1 hc2]
        rw [hc1] at hNt
        simp at hNt; omega
    · exact .inr ⟨hg _ _, hNt⟩
  · rw [stepR_stop hf, stepR_stop (s := ext ex s) hf]
    exact .inr ⟨rfl, hN⟩
theorem itR_ext (ex : List Int) (f : FnD) (s : RunD) (N : Nat) (hN : s.answers.length + s.calls.length = N) : ∀ k,
    N < (itR f s k).calls.length ∨ itR f (ext ex s) k = ext ex (itR f s k) ∧ (itR f s k).answers.length + (itR f s k).calls.length = N
  | 0 => .inr ⟨rfl, hN⟩
  | k + 1 => by
    rcases itR_ext ex f s N hN k with h | ⟨h1, h2⟩
    · exact .inl (Nat.lt_of_lt_of_le h (stepR_calls f (itR f s k)).length_le)
    · rcases stepR_ext ex f (itR f s k) N h2 with h3 | ⟨h3, h4⟩
      · exact .inl h3
      · refine .inr ⟨?_, h4⟩
        show (stepR f (itR f (ext ex s) k)).1 = _
        rw [h1]; exact h3
theorem runB_ext (f : FnD) (ag mem ans ex : List Int) : runB f ag mem (ans ++ ex) = ext ex (runB f ag mem ans) := rfl
end Go.Proofs.Ytnbmmfkkjceehaa
