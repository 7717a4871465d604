/- The flow of definitions in plain words: which variables may be without a value at a block's begin. -/
import Derived.Test.YtnbmmfkkjceehaaA9
import Derived.Test.YtnbmmfkkjceehaaD5
namespace Go.Proofs.Ytnbmmfkkjceehaa
set_option linter.unusedSimpArgs false
set_option linter.unusedVariables false
open Go.RowKit

def defd (x : BlkD) (v : Nat) : Bool := x.ins.any fun i => (definesI i).toNat == v
inductive Bare (f : FnD) (v : Nat) : Nat → Prop
  | start (h : (v : Int) ∉ f.params) : Bare f v 0
  | step {b t : Nat} (h : Bare f v b) (hb : b < f.blocks.length) (hd : defd f.blocks[b] v = false) (ht : (t : Int) ∈ toL (f.blocks[b]).term) : Bare f v t
open Classical in
noncomputable def bareF (f : FnD) (b : Nat) : SetF := fun v => !decide (Bare f v b)
open Classical in
noncomputable def valuedB (f : FnD) : Bool := decide (∀ b, (hb : b < f.blocks.length) → pastB (bareF f b) f.blocks[b] = true)

def outF (s : SetF) (l : List InsD) : SetF := l.foldl (fun s i => updF s (definesI i).toNat true) s
theorem outF_snoc (s : SetF) (l : List InsD) (i : InsD) : outF s (l ++ [i]) = updF (outF s l) (definesI i).toNat true := by simp [outF]
theorem outF_at (s : SetF) (l : List InsD) (v : Nat) : outF s l v = (s v || l.any fun i => (definesI i).toNat == v) := by
  induction l generalizing s with
  | nil => simp [outF]
  | cons i l ih =>
    have : outF s (i :: l) = outF (updF s (definesI i).toNat true) l := rfl
    rw [this, ih, List.any_cons]
    unfold updF
    by_cases e : v = (definesI i).toNat
    · subst e; simp
    · have e2 : ((definesI i).toNat == v) = false := by simp; exact fun x => e x.symm
      simp [e, e2]
theorem hasB_congr {s t : SetF} (xs : List Int) (hx : inSet xs) (h : ∀ v, v < 201 → s v = t v) : hasB s xs = hasB t xs := by
  unfold hasB
  congr 1
  rw [Bool.eq_iff_iff, List.any_eq_true, List.any_eq_true]
  constructor
  · rintro ⟨x, hxm, hx2⟩
    exact ⟨x, hxm, by rw [← h x.toNat (by have := hx x hxm; omega)]; exact hx2⟩
  · rintro ⟨x, hxm, hx2⟩
    exact ⟨x, hxm, by rw [h x.toNat (by have := hx x hxm; omega)]; exact hx2⟩
theorem pastRun_congr {s t : SetF} (l : List InsD) (h : ∀ v, v < 201 → s v = t v) : (pastRun s l = none ∧ pastRun t l = none) ∨ ∃ s' t', pastRun s l = some s' ∧ pastRun t l = some t' ∧ ∀ v, v < 201 → s' v = t' v := by
  induction l generalizing s t with
  | nil => exact .inr ⟨s, t, rfl, rfl, h⟩
  | cons i l ih =>
    simp only [pastRun]
    rw [hasB_congr _ (readsL_in i) h]
    split
    · exact ih (fun v hv => by unfold updF; split; rfl; exact h v hv)
    · exact .inl ⟨rfl, rfl⟩
theorem pastB_congr {s t : SetF} (x : BlkD) (h : ∀ v, v < 201 → s v = t v) : pastB s x = pastB t x := by
  unfold pastB
  rcases pastRun_congr x.ins h with ⟨h1, h2⟩ | ⟨s', t', h1, h2, h3⟩
  · rw [h1, h2]
  · rw [h1, h2]; exact hasB_congr _ (needsL_in _) h3

/-! ### counting -/
def truR (n : Nat) (r : Nat → SetF) : Nat := ((List.range n).map fun t => cntB (r t) 201).sum
theorem truR_succ (n : Nat) (r : Nat → SetF) : truR (n + 1) r = truR n r + cntB (r n) 201 := by
  simp [truR, List.range_succ, List.map_append, List.sum_append]
theorem truR_upd (n : Nat) (r : Nat → SetF) (k : Nat) (s : SetF) (hk : k < n) : truR n (updR r k s) + cntB (r k) 201 = truR n r + cntB s 201 := by
  induction n with
  | zero => omega
  | succ n ih =>
    rw [truR_succ, truR_succ]
    by_cases e : k = n
    · subst e
      have : truR k (updR r k s) = truR k r := by
        unfold truR
        congr 1
        apply List.map_congr_left
        intro t ht
        have := List.mem_range.1 ht
        simp [updR, show ¬ t = k by omega]
      rw [this]
      simp [updR]; omega
    · have := ih (by omega)
      have e2 : updR r k s n = r n := by simp [updR, show ¬ n = k by omega]
      rw [e2]; omega
theorem cntB_and_le (s o : SetF) (n : Nat) : cntB (fun k => s k && o k) n ≤ cntB s n := by
  induction n with
  | zero => simp [cntB]
  | succ n ih =>
    rw [cntB_succ, cntB_succ]
    cases s n <;> cases o n <;> simp <;> omega
theorem cntB_and_lt (s o : SetF) (n : Nat) (h : ∃ k, k < n ∧ (s k && o k) ≠ s k) : cntB (fun k => s k && o k) n < cntB s n := by
  induction n with
  | zero => obtain ⟨k, hk, _⟩ := h; omega
  | succ n ih =>
    rw [cntB_succ, cntB_succ]
    by_cases e : (s n && o n) = s n
    · obtain ⟨k, hk, hne⟩ := h
      have hkn : k ≠ n := fun e2 => hne (by rw [e2]; exact e)
      have := ih ⟨k, by omega, hne⟩
      rw [e]; omega
    · have := cntB_and_le s o n
      cases hs : s n <;> cases ho : o n <;> simp [hs, ho] at e ⊢
      omega
theorem eqSet_false (a b : SetF) (h : eqSet a b = false) : ∃ k, k < 201 ∧ a k ≠ b k := by
  have : ¬ ∀ k, k < 201 → a k = b k := fun hh => by rw [(eqSet_iff a b).2 hh] at h; cases h
  simpa using this

/-! ### the invariants -/
structure VInv (f : FnD) (r : Nat → SetF) : Prop where
  sound : ∀ t, t < f.blocks.length → ∀ v, v < 201 → r t v = false → Bare f v t
  start : ∀ v, v < 201 → r 0 v = true → (v : Int) ∈ f.params
/-- The edges of block b change nothing. -/
def StableAt (f : FnD) (r : Nat → SetF) (b : Nat) : Prop := ∀ (hb : b < f.blocks.length), ∀ t : Nat, (t : Int) ∈ toL (f.blocks[b]).term → ∀ v, v < 201 → r t v = true → outF (r b) (f.blocks[b]).ins v = true
def in0 (f : FnD) : Nat → SetF := fun b => if b = 0 then fun v => decide ((v : Int) ∈ f.params) else fun _ => true
theorem VInv.begin (f : FnD) : VInv f (in0 f) :=
  ⟨fun t ht v hv h => by
    unfold in0 at h
    by_cases e : t = 0
    · subst e; simp at h; exact .start h
    · simp [e] at h, fun v hv h => by simpa [in0] using h⟩
theorem VInv.step {f : FnD} {r : Nat → SetF} (h : VInv f r) {b t : Nat} (hb : b < f.blocks.length) (ht : (t : Int) ∈ toL (f.blocks[b]).term) (ht1 : 1 ≤ t) :
    VInv f (updR r t fun k => r t k && outF (r b) (f.blocks[b]).ins k) := by
  refine ⟨fun u hu v hv hf => ?_, fun v hv h0 => ?_⟩
  · unfold updR at hf
    by_cases e : u = t
    · subst e
      simp only [if_true, Bool.and_eq_false_iff] at hf
      rcases hf with hf | hf
      · exact h.sound u hu v hv hf
      · rw [outF_at, Bool.or_eq_false_iff] at hf
        exact .step (h.sound b hb v hv hf.1) hb hf.2 ht
    · rw [if_neg e] at hf
      exact h.sound u hu v hv hf
  · unfold updR at h0
    rw [if_neg (by omega)] at h0
    exact h.start v hv h0
theorem VInv.finish {f : FnD} {r : Nat → SetF} (h : VInv f r) (he : edgesOK f) (h0 : 0 < f.blocks.length) (hs : ∀ b, b < f.blocks.length → StableAt f r b) : ∀ b, b < f.blocks.length → ∀ v, v < 201 → r b v = bareF f b v := by
  have key : ∀ v, v < 201 → ∀ t, Bare f v t → t < f.blocks.length ∧ r t v = false := by
    intro v hv t hbare
    induction hbare with
    | start hn => exact ⟨h0, by cases hr : r 0 v; rfl; exact absurd (h.start v hv hr) hn⟩
    | @step b t _ hb hd ht ih =>
      have ⟨e1, e2⟩ := he _ (List.getElem_mem hb) _ ht
      refine ⟨by omega, ?_⟩
      cases hr : r t v
      · rfl
      · have := hs b hb hb t ht v hv hr
        rw [outF_at, ih.2] at this
        simp only [Bool.false_or] at this
        unfold defd at hd
        rw [hd] at this; cases this
  intro b hb v hv
  unfold bareF
  cases hr : r b v
  · have := h.sound b hb v hv hr
    simp [this]
  · have : ¬ Bare f v b := fun hh => by have := (key v hv b hh).2; rw [hr] at this; cases this
    simp [this]
end Go.Proofs.Ytnbmmfkkjceehaa
