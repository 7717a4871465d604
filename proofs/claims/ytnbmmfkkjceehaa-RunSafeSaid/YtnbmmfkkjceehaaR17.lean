/- The plain law of a run: what steps keep. -/
import Derived.Test.YtnbmmfkkjceehaaR16
import Derived.Test.YtnbmmfkkjceehaaR15
import Derived.Test.YtnbmmfkkjceehaaR14
namespace Go.Proofs.Ytnbmmfkkjceehaa
set_option linter.unusedSimpArgs false
set_option linter.unusedVariables false
open Go.RowKit

def itR (f : FnD) (s : RunD) : Nat → RunD
  | 0 => s
  | k + 1 => (stepR f (itR f s k)).1
theorem stepR_stop {f : FnD} {s : RunD} (h : s.fin ≠ 0) : stepR f s = (s, false) := by unfold stepR; rw [if_neg h]
theorem itR_stop {f : FnD} {s : RunD} {k : Nat} (h : (itR f s k).fin ≠ 0) : ∀ j, itR f s (k + j) = itR f s k
  | 0 => rfl
  | j + 1 => by
    show (stepR f (itR f s (k + j))).1 = _
    rw [itR_stop h j, stepR_stop h]
structure DataOK (k : Nat) (s : RunD) : Prop where
  vars : ∀ x y, s.vars x = some y → okI y
  mem : ∀ v ∈ s.mem, okI v
  mlen : s.mem.length ≤ 64
  answers : ∀ v ∈ s.answers, okI v
  calls : s.calls.length ≤ k
  args : ∀ x ∈ s.calls, x.args.length ≤ 8
theorem DataOK.up {k : Nat} {s : RunD} (h : DataOK k s) : DataOK (k + 1) s := ⟨h.vars, h.mem, h.mlen, h.answers, by have := h.calls; omega, h.args⟩
theorem DataOK.get {k : Nat} {s : RunD} (h : DataOK k s) (x : Int) : okI (getV s.vars x) := by
  unfold getV
  cases e : s.vars x with
  | none => exact okI_num 0 (by omega) (by omega)
  | some y => exact h.vars x y e
def InsPost (k : Nat) (r : RunD × Int × Bool) : Prop := DataOK (k + 1) r.1 ∧ okI r.2.1
theorem callR_ok {k : Nat} {s : RunD} {i : InsD} (h : DataOK k s) (h8 : i.args.length ≤ 8) : InsPost k (callR s i) := by
  have hd : DataOK (k + 1) (callD s i) := ⟨h.vars, h.mem, h.mlen, h.answers, (by have := h.calls; simp [callD]; omega), fun x hx => by
    simp only [callD, List.mem_append, List.mem_singleton] at hx
    rcases hx with hx | rfl
    · exact h.args x hx
    · simpa using h8⟩
  unfold callR
  split
  · exact ⟨hd, okI_num 0 (by omega) (by omega)⟩
  · rename_i a r ha
    exact ⟨⟨hd.vars, hd.mem, hd.mlen, fun v hv => h.answers v (by rw [ha]; exact List.mem_cons_of_mem _ hv), hd.calls, hd.args⟩, h.answers a (by rw [ha]; simp)⟩
theorem insV0_ok {k : Nat} {s : RunD} {i : InsD} (h : DataOK k s) (hi : InsW i) (h8 : i.args.length ≤ 8) : InsPost k (insV0 s i) := by
  unfold insV0
  split
  · exact ⟨h.up, okI_of hi.imm⟩
  split
  · exact ⟨h.up, h.get _⟩
  split
  · exact callR_ok h h8
  split
  · split
    · rename_i hq
      refine ⟨h.up, h.mem _ ?_⟩
      have hl : (wordI s.vars i).toNat < s.mem.length := by omega
      simp [List.getD, hl]
    · exact ⟨h.up, okI_of hi.imm⟩
  split
  · split
    · refine ⟨⟨h.vars, fun v hv => ?_, by simpa using h.mlen, h.answers, h.up.calls, h.args⟩, h.get _⟩
      rcases List.mem_or_eq_of_mem_set hv with hv | rfl
      · exact h.mem v hv
      · exact h.get _
    · exact ⟨h.up, okI_of hi.imm⟩
  · exact ⟨h.up, okI_calc _ _ _⟩
theorem insR_ok {k : Nat} {s : RunD} {i : InsD} (h : DataOK k s) (hi : InsW i) (h8 : i.args.length ≤ 8) : DataOK (k + 1) (insR s i).1 := by
  obtain ⟨h1, h2⟩ := insV0_ok h hi h8
  unfold insR
  split
  · split
    · refine ⟨fun x y hx => ?_, h1.mem, h1.mlen, h1.answers, h1.calls, h1.args⟩
      simp only [setV] at hx
      split at hx
      · injection hx with hx; subst hx; exact h2
      · exact h1.vars x y hx
    · exact h1
  · exact h1
structure StepOK (f : FnD) (k : Nat) (s : RunD) : Prop where
  data : DataOK k s
  ins : s.ins ≤ k
  steps : s.steps ≤ k
  block : s.block < f.blocks.length
theorem StepOK.w {f : FnD} {k : Nat} {s : RunD} (h : StepOK f k s) (hk : k ≤ 1000000) : RunW s := ⟨h.data.mem, h.data.answers, h.data.mlen, by have := h.data.calls; omega⟩
theorem nextR_ok {f : FnD} {k : Nat} {s : RunD} (hfw : FnW f) (hsm : Small f) (h : DataOK k s) (hb : s.block < f.blocks.length) :
    DataOK (k + 1) (nextR f s).1 ∧ (nextR f s).1.ins = s.ins ∧ (nextR f s).1.block = s.block ∧ (nextR f s).1.steps = s.steps ∧ ∀ b i, (nextR f s).2 = .spot b i → i.toNat ≤ s.ins + 1 := by
  have hx : f.blocks.getD s.block dBlk = f.blocks[s.block] := by simp [List.getD, hb]
  have hm := List.getElem_mem hb
  unfold nextR
  rw [hx]
  split
  · rename_i hlt
    have hy : f.blocks[s.block].ins.getD s.ins dIns = f.blocks[s.block].ins[s.ins] := by simp [List.getD, hlt]
    have hym := List.getElem_mem hlt
    rw [hy]
    obtain ⟨h1, h2, _, _, h5⟩ := insR_same s f.blocks[s.block].ins[s.ins]
    refine ⟨insR_ok h ((hfw.blocks _ hm).ins _ hym) (hsm.args _ hm _ hym), h1, h2, h5, fun b i hs => ?_⟩
    obtain ⟨g1, _⟩ := insV0_same s f.blocks[s.block].ins[s.ins]
    unfold insR at hs
    split at hs
    · simp only [NextD.spot.injEq] at hs
      omega
    · cases hs
  · refine ⟨h.up, rfl, rfl, rfl, fun b i hs => ?_⟩
    simp only [termD] at hs
    repeat' split at hs
    all_goals first | (cases hs; done) | (simp only [NextD.spot.injEq] at hs; omega)
theorem step_ok {f : FnD} {k : Nat} {s : RunD} (hfw : FnW f) (hsm : Small f) (hE : Ends f) (h : StepOK f k s) : StepOK f (k + 1) (stepR f s).1 := by
  unfold stepR
  split
  · have h1 : DataOK k { s with steps := s.steps + 1 } := ⟨h.data.vars, h.data.mem, h.data.mlen, h.data.answers, h.data.calls, h.data.args⟩
    obtain ⟨g1, g2, g3, g4, g5⟩ := nextR_ok hfw hsm h1 h.block
    have g6 := nextR_spot (s := { s with steps := s.steps + 1 }) hE h.block
    obtain ⟨r, hr⟩ : ∃ r, nextR f { s with steps := s.steps + 1 } = r := ⟨_, rfl⟩
    rw [hr] at g1 g2 g3 g4 g5 g6 ⊢
    have i1 := h.ins
    have i2 := h.steps
    have i3 := h.block
    simp only at g2 g3 g4 g5
    obtain ⟨a, e⟩ := r
    cases e with
    | spot b i =>
      have e5 := g5 b i rfl
      have e6 := g6 b i rfl
      exact ⟨⟨g1.vars, g1.mem, g1.mlen, g1.answers, g1.calls, g1.args⟩, (by show i.toNat ≤ _; omega), (by show a.steps ≤ _; simp only at g4; omega), (by show b.toNat < _; omega)⟩
    | done e v =>
      exact ⟨⟨g1.vars, g1.mem, g1.mlen, g1.answers, g1.calls, g1.args⟩, (by show a.ins ≤ _; simp only at g2; omega), (by show a.steps ≤ _; simp only at g4; omega), (by show a.block < _; simp only at g3; omega)⟩
  · exact ⟨h.data.up, by have := h.ins; show s.ins ≤ _; omega, by have := h.steps; show s.steps ≤ _; omega, h.block⟩
theorem itR_ok {f : FnD} {s : RunD} (hfw : FnW f) (hsm : Small f) (hE : Ends f) (h : StepOK f 0 s) : ∀ k, StepOK f k (itR f s k)
  | 0 => h
  | k + 1 => step_ok hfw hsm hE (itR_ok hfw hsm hE h k)
theorem zipV_ok : ∀ (l : List (Int × Int)) (s : ValF), (∀ x y, s x = some y → okI y) → (∀ p ∈ l, okI p.2) → ∀ x y, l.foldl (fun s x => setV s x.1 x.2) s x = some y → okI y
  | [], s, hs, _, x, y, h => hs x y h
  | p :: l, s, hs, hl, x, y, h => by
    refine zipV_ok l (setV s p.1 p.2) (fun a b hb => ?_) (fun q hq => hl q (List.mem_cons_of_mem _ hq)) x y h
    simp only [setV] at hb
    split at hb
    · injection hb with hb; subst hb; exact hl p (by simp)
    · exact hs a b hb
theorem begin_ok {f : FnD} {ag mem ans : List Int} (hok : BeginOK f ag mem) (ha : ∀ v ∈ ag, okI v) (hm : ∀ v ∈ mem, okI v) (hn : ∀ v ∈ ans, okI v) : StepOK f 0 (runB f ag mem ans) := by
  refine ⟨⟨zipV_ok _ _ (fun x y h => by cases h) (fun p hp => ha _ (List.of_mem_zip hp).2), hm, hok.2.2, hn, Nat.le_refl _, fun x hx => by cases hx⟩, Nat.le_refl _, Nat.le_refl _, ?_⟩
  exact (longB_blocks (rightI_zero' hok.1).1).1
theorem ends_of {f : FnD} (hw : wholeB f = true) (he : edgesOK f) : Ends f := by
  intro x hx s b i h
  simp only [wholeB, okBlk, Bool.and_eq_true, List.all_eq_true] at hw
  have ht := (hw.2 x hx).1
  have hk := he x hx
  unfold toL at hk
  rw [if_pos ht] at hk
  unfold isTermB at ht
  unfold termD at h
  by_cases k1 : x.term.kind = 1
  · rw [if_pos k1] at hk
    rw [if_neg (by omega), if_neg (by omega), if_neg (by omega)] at h
    simp only [NextD.spot.injEq] at h
    have := hk x.term.t0 (by simp)
    unfold edgeOK at this; omega
  by_cases k2 : x.term.kind = 2
  · rw [if_neg k1, if_pos k2] at hk
    rw [if_neg (by omega), if_neg (by omega)] at h
    have e0 := hk x.term.t0 (by simp)
    have e1 := hk x.term.t1 (by simp)
    unfold edgeOK at e0 e1
    split at h <;> (simp only [NextD.spot.injEq] at h; omega)
  by_cases k3 : x.term.kind = 3
  · rw [if_pos k3] at h; cases h
  · rw [if_neg k1, if_neg k2, if_neg k3] at ht
    simp only [Bool.and_eq_true, beq_iff_eq] at ht
    rw [if_neg k3, if_pos ht.1] at h; cases h
theorem BeginOK.parts {f : FnD} {ag mem : List Int} (h : BeginOK f ag mem) : Small f ∧ Ends f := by
  obtain ⟨h1, h2, h3, _⟩ := rightI_zero' h.1
  exact ⟨small_of h1 h2, ends_of h2 h3⟩
end Go.Proofs.Ytnbmmfkkjceehaa
