/- The theorem of chapter 3 in plain words: on each way of a right function what is read has a value. -/
import Derived.Test.YtddgdimjijefhaaA17
namespace Go.Proofs.Ytddgdimjijefhaa
set_option linter.unusedSimpArgs false
set_option linter.unusedVariables false
open Go.RowKit

theorem rightI_zero {f : FnD} (h : rightI f = 0) : longB f = false ∧ wholeB f = true ∧ edgesOK f ∧ valuedB f = true := by
  unfold rightI at h
  cases h1 : longB f
  · cases h2 : wholeB f
    · rw [h1, h2] at h; simp at h
    · by_cases h3 : edgesOK f ∧ ∀ b, b < f.blocks.length → Reach f b
      · cases h4 : valuedB f
        · rw [h1, h2, h4, if_neg (by decide), if_neg (by decide), if_neg (fun x => x h3)] at h; simp at h
        · exact ⟨rfl, rfl, h3.1, rfl⟩
      · rw [h1, h2, if_neg (by decide), if_neg (by decide), if_pos h3] at h; simp at h
  · rw [h1] at h; simp at h
theorem hasB_iff (s : SetF) (xs : List Int) : hasB s xs = true ↔ ∀ v ∈ xs, s v.toNat = true := by
  unfold hasB
  simp [List.any_eq_false]
theorem updF_mono {s t : SetF} (h : ∀ v, s v = true → t v = true) (k : Nat) : ∀ v, updF s k true v = true → updF t k true v = true := by
  intro v hv
  unfold updF at hv ⊢
  split
  · rfl
  · rename_i hne; rw [if_neg hne] at hv; exact h v hv
theorem pastRun_mono (l : List InsD) : ∀ (s t s' : SetF), (∀ v, s v = true → t v = true) → pastRun s l = some s' →
    (∀ j (hj : j < l.length), ∀ v ∈ readsL l[j], outF t (l.take j) v.toNat = true) ∧ (∀ v, s' v = true → outF t l v = true) := by
  induction l with
  | nil =>
    intro s t s' h hs
    simp only [pastRun, Option.some.injEq] at hs
    subst hs
    exact ⟨fun j hj => by simp at hj, fun v hv => h v hv⟩
  | cons i l ih =>
    intro s t s' h hs
    simp only [pastRun] at hs
    split at hs
    · rename_i hh
      have hh' := (hasB_iff _ _).1 hh
      obtain ⟨h1, h2⟩ := ih _ (updF t (definesI i).toNat true) s' (updF_mono h _) hs
      refine ⟨fun j hj v hv => ?_, h2⟩
      cases j with
      | zero => exact h _ (hh' v hv)
      | succ j => exact h1 j (by simpa using hj) v hv
    · cases hs
/-- Block b is reached on some way on which just the variables of H are defined. -/
structure Good (f : FnD) (b : Nat) (H : SetF) : Prop where
  lt : b < f.blocks.length
  bare : ∀ v, H v = false → Bare f v b
theorem Good.past {f : FnD} {b : Nat} {H : SetF} (h : Good f b H) (hv : valuedB f = true) : ∃ s', pastRun (bareF f b) (f.blocks[b]'h.lt).ins = some s' ∧ hasB s' (needsL (f.blocks[b]'h.lt).term) = true ∧ ∀ v, bareF f b v = true → H v = true := by
  unfold valuedB at hv
  rw [decide_eq_true_eq] at hv
  have h1 := hv b h.lt
  unfold pastB at h1
  split at h1
  · cases h1
  · rename_i s' hs
    refine ⟨s', hs, h1, fun v hb => ?_⟩
    cases hH : H v
    · have := h.bare v hH
      unfold bareF at hb
      simp [this] at hb
    · rfl
theorem Good.reads {f : FnD} {b : Nat} {H : SetF} (h : Good f b H) (hv : valuedB f = true) (j : Nat) (hj : j < (f.blocks[b]'h.lt).ins.length) : ∀ v ∈ readsL (f.blocks[b]'h.lt).ins[j], outF H ((f.blocks[b]'h.lt).ins.take j) v.toNat = true := by
  obtain ⟨s', h1, h2, h3⟩ := h.past hv
  exact (pastRun_mono _ _ H s' h3 h1).1 j hj
theorem Good.needs {f : FnD} {b : Nat} {H : SetF} (h : Good f b H) (hv : valuedB f = true) : ∀ v ∈ needsL (f.blocks[b]'h.lt).term, outF H (f.blocks[b]'h.lt).ins v.toNat = true := by
  obtain ⟨s', h1, h2, h3⟩ := h.past hv
  exact fun v hv => (pastRun_mono _ _ H s' h3 h1).2 _ ((hasB_iff _ _).1 h2 v hv)
theorem Good.step {f : FnD} {b : Nat} {H : SetF} (h : Good f b H) (hE : edgesOK f) {t : Int} (ht : t ∈ toL (f.blocks[b]'h.lt).term) : ∃ u : Nat, t = u ∧ 1 ≤ u ∧ Good f u (outF H (f.blocks[b]'h.lt).ins) := by
  obtain ⟨h1, h2⟩ := hE _ (List.getElem_mem h.lt) t ht
  obtain ⟨u, rfl⟩ := Int.eq_ofNat_of_zero_le (show 0 ≤ t by omega)
  refine ⟨u, rfl, by omega, by omega, fun v hv => ?_⟩
  rw [outF_at] at hv
  simp only [Bool.or_eq_false_iff] at hv
  exact .step (h.bare v hv.1) h.lt hv.2 ht
theorem Good.start (f : FnD) (h0 : 0 < f.blocks.length) : Good f 0 (fun v => decide ((v : Int) ∈ f.params)) :=
  ⟨h0, fun v hv => .start (by simpa using hv)⟩
theorem needsL_cases (t : TermD) : needsL t = [] ∨ ∃ v, needsL t = [v] := by unfold needsL; split <;> simp
end Go.Proofs.Ytddgdimjijefhaa
