/- A region that draws its order, and stores into cells that it has read: what is read is taken first; a condition on the world is asked up to the first store (number g) alone. No program in sight. -/
import Derived.Test.YtnbmmfkkjceehaaD0
import Derived.Deep.RegionHeld3
import Derived.Deep.DrawnRows
namespace Go.Proofs.Ytnbmmfkkjceehaa
set_option linter.unusedSimpArgs false
set_option linter.unusedVariables false
open Go.RowKit

section
variable {P : Program} {ops : Array Oper} {Q : Exit → Act → World → Prop} {md : Region.Mode} {S : World → Prop} {g : Nat}
/-- Whatever order is picked from here on; as long as number g has not come up, S holds behind each operation. -/
def wpAnyG (P : Program) (md : Region.Mode) (ops : Array Oper) (Q : Exit → Act → World → Prop) (S : World → Prop) (g : Nat) : Nat → Array Bool → Act → World → Prop
  | 0, l, a, w => Region.ready md ops l = [] ∧ Q .normal a w
  | n + 1, l, a, w => (Region.ready md ops l = [] → Q .normal a w) ∧ ∀ i ∈ Region.ready md ops l, wpOp P ops Q i (fun a' w' => ((l.setIfInBounds i true).getD g true = false → S w') ∧ wpAnyG P md ops Q S g n (l.setIfInBounds i true) a' w') a w
theorem wpAnyG.any : ∀ (n : Nat) (l : Array Bool) (a : Act) (w : World), wpAnyG P md ops Q S g n l a w → wpAny P md ops Q n l a w
  | 0, _, _, _, h => h
  | n + 1, _, _, _, h => ⟨h.1, fun i hi => wpOp_mono (fun a' w' h' => wpAnyG.any n _ a' w' h'.2) (h.2 i hi)⟩
/-- Does number g wait for number i? -/
def waitsFor (md : Region.Mode) (ops : Array Oper) (g i : Nat) : Bool := match ops[g]? with
  | some og => og.after.any fun e => Region.binds md e && e.on == i
  | none => false
theorem not_ready {i : Nat} {l : Array Bool} (hw : waitsFor md ops g i = true) (hi : i ∈ Region.ready md ops l) : g ∉ Region.ready md ops l := by
  intro hg
  obtain ⟨hu, oi, hoi, _⟩ := mem_ready.1 hi
  obtain ⟨_, og, hog, hall⟩ := mem_ready.1 hg
  unfold waitsFor at hw
  rw [hog] at hw
  obtain ⟨e, he, hb⟩ := Array.any_eq_true'.1 hw
  simp only [Bool.and_eq_true, beq_iff_eq] at hb
  have h1 := hall e he hb.1
  rw [hb.2] at h1
  rcases Nat.lt_or_ge i l.size with h2 | h2
  · simp [h2] at h1 hu; rw [hu] at h1; cases h1
  · simp [Array.getElem?_eq_none h2] at h1
theorem wpAnyG_first {i : Nat} {oi : Oper} {v : Value} (hi : ops[i]? = some oi) (hsel : ∀ (j : Nat) (o : Oper) cs b, ops[j]? = some o → o.op ≠ .select cs b) (hQ : ∀ c a w, Q (.panic c) (a.put oi.dst v) w → Q (.panic c) a w) (hw : waitsFor md ops g i = true) (hgi : g ≠ i) :
    ∀ (n : Nat) (l : Array Bool) (a : Act) (w : World), (∀ j oj, ops[j]? = some oj → j ≠ i → l.getD j true = false → (∀ e ∈ oj.after, Region.binds md e = true → e.on ≠ i) → oi.apart ops oj = true) →
      i ∈ Region.ready md ops l → l.getD g true = false → YieldsIf P ops S oi v a → S w → wpAnyG P md ops Q S g n (l.setIfInBounds i true) (a.put oi.dst v) w → wpAnyG P md ops Q S g (n + 1) l a w := by
  intro n
  induction n with
  | zero =>
    intro l a w _ hr hg hy hS H
    refine ⟨fun h => (by rw [h] at hr; cases hr), fun j hj => ?_⟩
    by_cases e : j = i
    · subst e; exact hy.wpOp hi hS ⟨fun _ => hS, H⟩
    · have := ready_mono hj e
      rw [H.1] at this; cases this
  | succ n ih =>
    intro l a w hfree hr hg hy hS H
    refine ⟨fun h => (by rw [h] at hr; cases hr), fun j hj => ?_⟩
    by_cases e : j = i
    · subst e; exact hy.wpOp hi hS ⟨fun _ => hS, H⟩
    · have hjg : j ≠ g := fun h => not_ready hw hr (h ▸ hj)
      obtain ⟨hju, oj, hoj, hall⟩ := mem_ready.1 hj
      have hiu := (mem_ready.1 hr).1
      have hnot : ∀ e ∈ oj.after, Region.binds md e = true → e.on ≠ i := fun x hx hb he => by
        have h1 := hall x hx hb
        rw [he] at h1
        rcases Nat.lt_or_ge i l.size with h2 | h2
        · simp [h2] at hiu h1; rw [hiu] at h1; cases h1
        · simp [Array.getElem?_eq_none h2] at h1
      have hju' : l.getD j true = false := by
        rcases Nat.lt_or_ge j l.size with h2 | h2
        · simp [h2] at hju ⊢; exact hju
        · exfalso
          have hjo := (Array.getElem?_eq_some_iff.1 hoj).1
          simp [Array.getElem?_eq_none h2] at hju
      have h1 := H.2 j (ready_mono hj e)
      have hG : ((l.setIfInBounds i true).setIfInBounds j true).getD g true = false := by rw [getD_set_ne true hjg, getD_set_ne true (Ne.symm hgi)]; exact hg
      have h2 := wpOp_putIf hoj (hfree j oj hoj e hju' hnot) (fun cs b => hsel i oi cs b hi) (fun cs b => hsel j oj cs b hoj) hQ hy h1
      refine wpOp_mono (fun a' w' h3 => ⟨fun _ => h3.2.1 hG, ih (l.setIfInBounds j true) a' w' ?_ (ready_mono hr (Ne.symm e)) (by rw [getD_set_ne true hjg]; exact hg) h3.1 (h3.2.1 hG) ?_⟩) h2
      · intro k ok hk hki hun hno
        refine hfree k ok hk hki ?_ hno
        by_cases hjk : j = k
        · subst hjk; exact hju'
        · rw [getD_set_ne true hjk] at hun; exact hun
      · rw [Array.setIfInBounds_comm _ _ e]; exact h3.2.2
theorem wpAnyG_take (i : Nat) {oi : Oper} {v : Value} {n : Nat} {l : Array Bool} {a : Act} {w : World} (hi : ops[i]? = some oi) (hs : Region.noSelect ops = true) (hf : Region.free md ops l i = true) (hr : (Region.ready md ops l).contains i = true)
    (hw : waitsFor md ops g i = true) (hgi : (g == i) = false) (hg : l.getD g true = false) (hQ : ∀ c a w, Q (.panic c) (a.put oi.dst v) w → Q (.panic c) a w) (hy : YieldsIf P ops S oi v a) (hS : S w)
    (h : wpAnyG P md ops Q S g n (l.setIfInBounds i true) (a.put oi.dst v) w) : wpAnyG P md ops Q S g (n + 1) l a w :=
  wpAnyG_first hi (Region.noSelect_spec hs) hQ hw (by simpa using hgi) n l a w (Region.free_spec hi hf) (by simpa using hr) hg hy hS h
/-- One operation alone may come up, ahead of the first store: S is to be shown anew. -/
theorem wpAnyG_one (i : Nat) {o : Oper} {n : Nat} {l : Array Bool} {a : Act} {w : World} (hr : Region.ready md ops l = [i]) (ho : ops[i]? = some o)
    (h : ∀ K' : Act → World → Prop, Shut (∀ a w, S w → (S w → wpAnyG P md ops Q S g n (l.setIfInBounds i true) a w) → K' a w) → if Region.wanted o (yielded ops a.tmps) = true then Oper.wp P o a w K' Q else K' (a.put o.dst undef) w) : wpAnyG P md ops Q S g (n + 1) l a w :=
  ⟨fun h0 => absurd (hr ▸ h0) (by simp), fun j hj => by
    rw [hr] at hj
    have : j = i := by simpa using hj
    subst this
    exact wpOp_step ho (fun K' hK => h K' (fun a w hS hW => hK a w ⟨fun _ => hS, hW hS⟩))⟩
/-- One operation alone may come up, the first store or behind it: nothing is asked of the world. -/
theorem wpAnyG_past (i : Nat) {o : Oper} {n : Nat} {l : Array Bool} {a : Act} {w : World} (hr : Region.ready md ops l = [i]) (ho : ops[i]? = some o) (hp : (l.setIfInBounds i true).getD g true = true)
    (h : ∀ K' : Act → World → Prop, Shut (∀ a w, wpAnyG P md ops Q S g n (l.setIfInBounds i true) a w → K' a w) → if Region.wanted o (yielded ops a.tmps) = true then Oper.wp P o a w K' Q else K' (a.put o.dst undef) w) : wpAnyG P md ops Q S g (n + 1) l a w :=
  ⟨fun h0 => absurd (hr ▸ h0) (by simp), fun j hj => by
    rw [hr] at hj
    have : j = i := by simpa using hj
    subst this
    exact wpOp_step ho (fun K' hK => h K' (fun a w hW => hK a w ⟨(fun h1 => absurd (hp.symm.trans h1) (by decide)), hW⟩))⟩
theorem wpAnyG_done {l : Array Bool} {a : Act} {w : World} (hr : Region.ready md ops l = []) (h : Q .normal a w) : ∀ n, wpAnyG P md ops Q S g n l a w
  | 0 => ⟨hr, h⟩
  | _ + 1 => ⟨fun _ => h, by rw [hr]; simp⟩
/-- The beginning. -/
theorem wp_region_gated (S : World → Prop) (g : Nat) {id : Nat} {a : Act} {w : World} (hm : P.follows .mixedOrders = true) (hS : S w.drew) (h : S w.drew → wpAnyG P .any ops Q S g ops.size (Array.replicate ops.size false) a w.drew) : (Code.region id ops true).wp P Q a w :=
  wp_region_any hm (wpAnyG.any _ _ _ _ (h hS))
end
end Go.Proofs.Ytnbmmfkkjceehaa
