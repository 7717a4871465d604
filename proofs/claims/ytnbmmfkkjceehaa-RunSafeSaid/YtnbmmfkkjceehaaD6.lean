/- The flow of definitions: what one round over the targets of a block keeps, in plain words. -/
import Derived.Test.YtnbmmfkkjceehaaA10
namespace Go.Proofs.Ytnbmmfkkjceehaa
set_option linter.unusedSimpArgs false
set_option linter.unusedVariables false
open Go.RowKit

def OutOK (f : FnD) (O : SetF) (k : Nat) : Prop := ∀ hk : k < f.blocks.length, ∀ v, v < 201 → O v = false → Bare f v k ∧ defd f.blocks[k] v = false
theorem VInv.out {f : FnD} {r : Nat → SetF} (h : VInv f r) {k : Nat} (hk : k < f.blocks.length) : OutOK f (outF (r k) (f.blocks[k]).ins) k := by
  intro _ v hv hf
  rw [outF_at, Bool.or_eq_false_iff] at hf
  exact ⟨h.sound k hk v hv hf.1, hf.2⟩
theorem VInv.step' {f : FnD} {r : Nat → SetF} (h : VInv f r) {O : SetF} {b t : Nat} (ho : OutOK f O b) (hb : b < f.blocks.length) (ht : (t : Int) ∈ toL (f.blocks[b]).term) (ht1 : 1 ≤ t) :
    VInv f (updR r t fun k => r t k && O k) := by
  refine ⟨fun u hu v hv hf => ?_, fun v hv h0 => ?_⟩
  · unfold updR at hf
    by_cases e : u = t
    · subst e
      simp only [if_true, Bool.and_eq_false_iff] at hf
      rcases hf with hf | hf
      · exact h.sound u hu v hv hf
      · have := ho hb v hv hf
        exact .step this.1 hb this.2 ht
    · rw [if_neg e] at hf
      exact h.sound u hu v hv hf
  · unfold updR at h0
    rw [if_neg (by omega)] at h0
    exact h.start v hv h0
def TInv (f : FnD) (r r2 : Nat → SetF) (O : SetF) (k : Nat) (l : List Int) (mb : Bool) : Prop :=
  VInv f r2 ∧ (if mb then truR f.blocks.length r2 + 1 ≤ truR f.blocks.length r else r2 = r ∧ (∀ b, b < k → StableAt f r b) ∧ (∀ hk : k < f.blocks.length, O = outF (r k) (f.blocks[k]).ins) ∧ ∀ t : Nat, (t : Int) ∈ l → ∀ v, v < 201 → r t v = true → O v = true)
theorem TInv.start {f : FnD} {r r2 : Nat → SetF} {k : Nat} {mb : Bool} (hk : k < f.blocks.length) (h : VInv f r2 ∧ (if mb then truR f.blocks.length r2 + 1 ≤ truR f.blocks.length r else r2 = r ∧ ∀ b, b < k → StableAt f r b)) : TInv f r r2 (outF (r2 k) (f.blocks[k]).ins) k [] mb := by
  refine ⟨h.1, ?_⟩
  cases mb
  · simp only [Bool.false_eq_true, if_false] at h ⊢
    exact ⟨h.2.1, h.2.2, fun _ => by rw [h.2.1], fun t ht => by cases ht⟩
  · simpa using h.2
theorem TInv.same {f : FnD} {r r2 : Nat → SetF} {O : SetF} {k : Nat} {l : List Int} {mb : Bool} (h : TInv f r r2 O k l mb) {t : Nat} (he : eqSet (fun v => r2 t v && O v) (r2 t) = true) : TInv f r r2 O k (l ++ [(t : Int)]) mb := by
  refine ⟨h.1, ?_⟩
  have h2 := h.2
  cases mb
  · simp only [Bool.false_eq_true, if_false] at h2 ⊢
    obtain ⟨h3, h4, h5, h6⟩ := h2
    refine ⟨h3, h4, h5, fun u hu v hv hr => ?_⟩
    rcases List.mem_append.1 hu with hu | hu
    · exact h6 u hu v hv hr
    · have : u = t := by have h7 : (u : Int) = (t : Int) := by simpa using hu
                         omega
      subst this
      have := (eqSet_iff _ _).1 he v hv
      rw [h3] at this
      rw [hr] at this
      simpa using this
  · simpa using h2
theorem TInv.change {f : FnD} {r r2 : Nat → SetF} {O : SetF} {k : Nat} {l : List Int} {mb : Bool} (h : TInv f r r2 O k l mb) (ho : OutOK f O k) (hk : k < f.blocks.length) {t : Nat} (ht : (t : Int) ∈ toL (f.blocks[k]).term) (ht1 : 1 ≤ t) (htn : t < f.blocks.length) (l' : List Int) (he : eqSet (fun v => r2 t v && O v) (r2 t) = false) : TInv f r (updR r2 t fun v => r2 t v && O v) O k l' true := by
  refine ⟨h.1.step' ho hk ht ht1, ?_⟩
  simp only [if_true]
  have hlt := cntB_and_lt (r2 t) O 201 (eqSet_false _ _ he)
  have hu := truR_upd f.blocks.length r2 t (fun v => r2 t v && O v) htn
  have h2 := h.2
  cases mb
  · simp only [Bool.false_eq_true, if_false] at h2
    obtain ⟨h3, _⟩ := h2
    rw [h3] at hu hlt ⊢
    omega
  · simp only [if_true] at h2
    omega
theorem TInv.done {f : FnD} {r r2 : Nat → SetF} {O : SetF} {k : Nat} {mb : Bool} (hk : k < f.blocks.length) (h : TInv f r r2 O k (toL (f.blocks[k]).term) mb) : VInv f r2 ∧ (if mb then truR f.blocks.length r2 + 1 ≤ truR f.blocks.length r else r2 = r ∧ ∀ b, b < k + 1 → StableAt f r b) := by
  refine ⟨h.1, ?_⟩
  have h2 := h.2
  cases mb
  · simp only [Bool.false_eq_true, if_false] at h2 ⊢
    obtain ⟨h3, h4, h5, h6⟩ := h2
    refine ⟨h3, fun b hb => ?_⟩
    by_cases e : b = k
    · subst e
      intro _ t ht v hv hr
      rw [← h5 hk]
      exact h6 t ht v hv hr
    · exact h4 b (by omega)
  · simpa using h2
/-- What changes nothing but block G and what is made anew. -/
theorem grownBy_cell {w w' : World} {G : Nat} (h : w.grownBy w' (some G)) {b o : Nat} (hb : b < w.heap.size) (hne : b ≠ G) : w'.cell? ⟨b, o, none⟩ = w.cell? ⟨b, o, none⟩ := by
  have := h.block b hb (by intro e; cases e; exact hne rfl)
  simp only [World.cell?, this]
theorem grownBy_refl (w : World) (G : Nat) : w.grownBy w (some G) := ⟨rfl, rfl, rfl, Nat.le_refl _, fun _ _ _ => rfl⟩
theorem grownBy_below {w w1 w2 : World} {G N : Nat} (h : w.grownBy w1 (some G)) (hb : Below N w1 w2) (hN : w.heap.size ≤ N) : w.grownBy w2 (some G) :=
  ⟨hb.os.trans h.os, hb.tape.trans h.tape, hb.output.trans h.output, Nat.le_trans h.size hb.size, fun k hk hne => (hb.block k (by omega)).trans (h.block k hk hne)⟩
theorem grownBy_setCells {w w1 : World} {G : Nat} (h : w.grownBy w1 (some G)) (vs : List Value) (o : Nat) : w.grownBy (w1.setCells G o vs) (some G) := by
  induction vs generalizing o w1 with
  | nil => exact h
  | cons v vs ih =>
    refine ih (w1 := w1.setCell ⟨G, o, none⟩ v) ⟨h.os, h.tape, h.output, ?_, fun k hk hne => ?_⟩ (o + 1)
    · simpa using h.size
    · rw [heap_setCell_other _ _ _ _ (fun e => hne (by simp only at e; rw [e]))]
      exact h.block k hk hne
theorem RI_kept {w w' : World} {G : Nat} {A : Option Addr} {c : Nat} {l : List Int} (h : RI w A c l) (hne : ∀ b o, A = some ⟨b, o, none⟩ → b ≠ G) (hg : w.grownBy w' (some G)) : RI w' A c l :=
  ⟨h.1, h.2, h.3, fun j x hj => by
    obtain ⟨b, o, hA, hlt, hc⟩ := h.get j x hj
    exact ⟨b, o, hA, Nat.lt_of_lt_of_le hlt hg.size, (grownBy_cell hg hlt (hne b o hA)).trans hc⟩⟩
theorem SetIn_kept {w w' : World} {G b o : Nat} {s : SetF} (h : SetIn w b o s) (hne : b ≠ G) (hg : w.grownBy w' (some G)) : SetIn w' b o s := fun j v hj => (grownBy_cell hg h.lt hne).trans (h j v hj)
theorem ownsRow_RI_base {w : World} {base : Nat} {e : TypeId} {v : Value} {xs : List Int} (h : w.ownsRow base e 1 v xs.length (xs.map (Value.int .i64))) (hl : xs.length ≤ 140737488351232) : ∃ A c, v = .slice A xs.length c ∧ RI w A c xs ∧ ∀ b o, A = some ⟨b, o, none⟩ → base ≤ b := by
  rcases h.2 with ⟨rfl, h0⟩ | ⟨g, cap, cur, rfl, hb, hg, hnc, _⟩
  · have : xs = [] := List.length_eq_zero_iff.1 h0
    subst this
    exact ⟨none, 0, rfl, RI.empty _, fun b o h => by cases h⟩
  · refine ⟨_, cap, rfl, ⟨hl, hnc, fun h => by simp at h, fun j x hj => ⟨g, 0, rfl, (Array.getElem?_eq_some_iff.1 hg).1, ?_⟩⟩, fun b o h => by cases h; exact hb⟩
    have hj' := (List.getElem?_eq_some_iff.1 hj).1
    have := h.cellAt j (by omega)
    simpa [hj] using this
theorem grownBy_setCell {w w1 : World} {G : Nat} (h : w.grownBy w1 (some G)) (o : Nat) (v : Value) : w.grownBy (w1.setCell ⟨G, o, none⟩ v) (some G) := grownBy_setCells h [v] o
theorem grownBy_two {w w1 w2 : World} {G : Nat} (h : w.grownBy w1 (some G)) (hg : w1.grownBy w2 (some G)) : w.grownBy w2 (some G) :=
  ⟨hg.os.trans h.os, hg.tape.trans h.tape, hg.output.trans h.output, Nat.le_trans h.size hg.size, fun k hk hne => (hg.block k (Nat.lt_of_lt_of_le hk h.size) hne).trans (h.block k hk hne)⟩
end Go.Proofs.Ytnbmmfkkjceehaa
