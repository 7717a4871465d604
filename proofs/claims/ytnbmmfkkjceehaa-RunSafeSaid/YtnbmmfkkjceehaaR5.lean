/- Readable functions whose blocks all meet Q. -/
import Derived.Test.YtnbmmfkkjceehaaR4
namespace Go.Proofs.Ytnbmmfkkjceehaa
set_option linter.unusedSimpArgs false
set_option linter.unusedVariables false
open Go.RowKit

structure RIQ (Q : Nat → Prop) (w : World) (A : Option Addr) (c : Nat) (xs : List Int) : Prop where
  r : RI w A c xs
  q : xs ≠ [] → ∀ b o, A = some ⟨b, o, none⟩ → Q b
structure RInsQ (Q : Nat → Prop) (w : World) (A : Option Addr) (c : Nat) (l : List InsD) : Prop where
  big : l.length ≤ 140737488351232
  cap : l.length ≤ c
  nil : A = none → c = 0
  get : ∀ j i, l[j]? = some i → ∃ b o A' c', A = some ⟨b, o, none⟩ ∧ b < w.heap.size ∧ Q b ∧ InsAt w b (o + j * 8) A' c' i ∧ (i.args ≠ [] → ∀ b o, A' = some ⟨b, o, none⟩ → Q b)
structure RBlkQ (Q : Nat → Prop) (w : World) (A : Option Addr) (c : Nat) (l : List BlkD) : Prop where
  big : l.length ≤ 140737488351232
  cap : l.length ≤ c
  nil : A = none → c = 0
  get : ∀ j x, l[j]? = some x → ∃ b o A' c', A = some ⟨b, o, none⟩ ∧ b < w.heap.size ∧ Q b ∧ BlkAt w b (o + j * 5) A' c' x ∧ RInsQ Q w A' c' x.ins
theorem RInsQ.r {Q : Nat → Prop} {w : World} {A : Option Addr} {c : Nat} {l : List InsD} (h : RInsQ Q w A c l) : RIns w A c l :=
  ⟨h.1, h.2, h.3, fun j i hj => by obtain ⟨b, o, A', c', h1, h2, _, h4, _⟩ := h.get j i hj; exact ⟨b, o, A', c', h1, h2, h4⟩⟩
theorem RBlkQ.r {Q : Nat → Prop} {w : World} {A : Option Addr} {c : Nat} {l : List BlkD} (h : RBlkQ Q w A c l) : RBlk w A c l :=
  ⟨h.1, h.2, h.3, fun j i hj => by obtain ⟨b, o, A', c', h1, h2, _, h4, _⟩ := h.get j i hj; exact ⟨b, o, A', c', h1, h2, h4⟩⟩
/-- The blocks that meet Q are as they were. -/
structure KeepQ (Q : Nat → Prop) (w w' : World) : Prop where
  size : w.heap.size ≤ w'.heap.size
  block : ∀ b, Q b → b < w.heap.size → w'.heap[b]? = w.heap[b]?
theorem KeepQ.cell {Q : Nat → Prop} {w w' : World} (h : KeepQ Q w w') {b : Nat} (hQ : Q b) (hb : b < w.heap.size) (o : Nat) : w'.cell? ⟨b, o, none⟩ = w.cell? ⟨b, o, none⟩ := World.cell?_of_block (h.block b hQ hb)
theorem RIQ.keep {Q : Nat → Prop} {w w' : World} {A : Option Addr} {c : Nat} {xs : List Int} (h : RIQ Q w A c xs) (hk : KeepQ Q w w') : RIQ Q w' A c xs :=
  ⟨⟨h.r.1, h.r.2, h.r.3, fun j x hj => by
    obtain ⟨b, o, hA, hlt, hc⟩ := h.r.get j x hj
    have hne : xs ≠ [] := fun e => by rw [e] at hj; simp at hj
    exact ⟨b, o, hA, Nat.lt_of_lt_of_le hlt hk.size, (hk.cell (h.q hne b o hA) hlt _).trans hc⟩⟩, h.q⟩
theorem RIQ.imp {Q Q' : Nat → Prop} {w : World} {A : Option Addr} {c : Nat} {xs : List Int} (h : RIQ Q w A c xs) (hq : ∀ b, b < w.heap.size → Q b → Q' b) : RIQ Q' w A c xs :=
  ⟨h.r, fun hne b o hA => by
    obtain ⟨b', o', hA', hlt, _⟩ := h.r.at 0 (List.length_pos_iff.2 hne)
    rw [hA] at hA'; cases hA'
    exact hq _ hlt (h.q hne _ _ hA)⟩
theorem InsAt.keep {Q : Nat → Prop} {w w' : World} {b o c : Nat} {A : Option Addr} {i : InsD} (h : InsAt w b o A c i) (hb : b < w.heap.size) (hQ : Q b) (hq : i.args ≠ [] → ∀ b o, A = some ⟨b, o, none⟩ → Q b) (hk : KeepQ Q w w') : InsAt w' b o A c i := by
  have k : ∀ j, w'.cell? ⟨b, j, none⟩ = w.cell? ⟨b, j, none⟩ := fun j => hk.cell hQ hb j
  exact ⟨(k _).trans h.c0, (k _).trans h.c1, (k _).trans h.c2, (k _).trans h.c3, (k _).trans h.c4, (k _).trans h.c5, (k _).trans h.c6, (k _).trans h.c7, (RIQ.keep ⟨h.args, hq⟩ hk).r⟩
theorem RInsQ.keep {Q : Nat → Prop} {w w' : World} {A : Option Addr} {c : Nat} {l : List InsD} (h : RInsQ Q w A c l) (hk : KeepQ Q w w') : RInsQ Q w' A c l :=
  ⟨h.1, h.2, h.3, fun j i hj => by
    obtain ⟨b, o, A', c', h1, h2, h3, h4, h5⟩ := h.get j i hj
    exact ⟨b, o, A', c', h1, Nat.lt_of_lt_of_le h2 hk.size, h3, h4.keep h2 h3 h5 hk, h5⟩⟩
theorem BlkAt.keep {Q : Nat → Prop} {w w' : World} {b o c : Nat} {A : Option Addr} {x : BlkD} (h : BlkAt w b o A c x) (hb : b < w.heap.size) (hQ : Q b) (hi : RInsQ Q w A c x.ins) (hk : KeepQ Q w w') : BlkAt w' b o A c x := by
  have k : ∀ j, w'.cell? ⟨b, j, none⟩ = w.cell? ⟨b, j, none⟩ := fun j => hk.cell hQ hb j
  exact ⟨(k _).trans h.c0, (k _).trans h.c1, (k _).trans h.c2, (k _).trans h.c3, (k _).trans h.c4, (hi.keep hk).r⟩
theorem RBlkQ.keep {Q : Nat → Prop} {w w' : World} {A : Option Addr} {c : Nat} {l : List BlkD} (h : RBlkQ Q w A c l) (hk : KeepQ Q w w') : RBlkQ Q w' A c l :=
  ⟨h.1, h.2, h.3, fun j i hj => by
    obtain ⟨b, o, A', c', h1, h2, h3, h4, h5⟩ := h.get j i hj
    exact ⟨b, o, A', c', h1, Nat.lt_of_lt_of_le h2 hk.size, h3, h4.keep h2 h3 h5 hk, h5.keep hk⟩⟩
theorem RInsQ.argsQ {Q Q' : Nat → Prop} {w : World} {b o c : Nat} {A : Option Addr} {i : InsD} (h : InsAt w b o A c i) (hq : i.args ≠ [] → ∀ b o, A = some ⟨b, o, none⟩ → Q b) (himp : ∀ b, b < w.heap.size → Q b → Q' b) : i.args ≠ [] → ∀ b o, A = some ⟨b, o, none⟩ → Q' b :=
  (RIQ.imp ⟨h.args, hq⟩ himp).q
theorem RInsQ.imp {Q Q' : Nat → Prop} {w : World} {A : Option Addr} {c : Nat} {l : List InsD} (h : RInsQ Q w A c l) (hq : ∀ b, b < w.heap.size → Q b → Q' b) : RInsQ Q' w A c l :=
  ⟨h.1, h.2, h.3, fun j i hj => by
    obtain ⟨b, o, A', c', h1, h2, h3, h4, h5⟩ := h.get j i hj
    exact ⟨b, o, A', c', h1, h2, hq b h2 h3, h4, RInsQ.argsQ h4 h5 hq⟩⟩
theorem RBlkQ.imp {Q Q' : Nat → Prop} {w : World} {A : Option Addr} {c : Nat} {l : List BlkD} (h : RBlkQ Q w A c l) (hq : ∀ b, b < w.heap.size → Q b → Q' b) : RBlkQ Q' w A c l :=
  ⟨h.1, h.2, h.3, fun j i hj => by
    obtain ⟨b, o, A', c', h1, h2, h3, h4, h5⟩ := h.get j i hj
    exact ⟨b, o, A', c', h1, h2, hq b h2 h3, h4, h5.imp hq⟩⟩
/-- A row of the call's own. -/
theorem RIQ.of_own {w : World} {base : Nat} {e : TypeId} {v : Value} {xs : List Int} (h : w.ownsRow base e 1 v xs.length (xs.map (Value.int .i64))) (hl : xs.length ≤ 140737488351232) : ∃ A c, v = .slice A xs.length c ∧ RIQ (base ≤ ·) w A c xs := by
  obtain ⟨A, c, rfl, hr⟩ := ownsRow_RI h hl
  refine ⟨A, c, rfl, hr, fun hne b o hA => ?_⟩
  have := (h.lt b (by rw [hA]; rfl)).1
  exact this
theorem own_slice {w : World} {base n sz : Nat} {e : TypeId} {v : Value} {vs : List Value} (h : w.ownsRow base e sz v n vs) : ∃ A c, v = .slice A n c ∧ n ≤ c := by
  rcases h.2 with ⟨rfl, rfl⟩ | ⟨g, cap, cur, rfl, _, _, hnc, _⟩
  · exact ⟨none, 0, rfl, Nat.le_refl _⟩
  · exact ⟨_, cap, rfl, hnc⟩
theorem own_cells {w : World} {base n sz cap g : Nat} {e : TypeId} {vs : List Value} (h : w.ownsRow base e sz (.slice (some ⟨g, 0, none⟩) n cap) n vs) : ∀ j v, vs[j]? = some v → w.cell? ⟨g, j, none⟩ = some v := fun j v hj => by
  have hlt : j < n * sz := by have := (List.getElem?_eq_some_iff.1 hj).1; rw [h.1] at this; exact this
  rw [h.cellAt j hlt]; exact hj
theorem RInsQ.of_own {w : World} {base : Nat} {e : TypeId} {v : Value} {l : List InsD} {vs : List Value} {h : HdF} (ho : w.ownsRow base e 8 v l.length vs) (hc : CIns vs l h) (hl : l.length ≤ 140737488351232) (ha : ∀ j i, l[j]? = some i → RIQ (base ≤ ·) w (h j).1 (h j).2 i.args) :
    ∃ A c, v = .slice A l.length c ∧ RInsQ (base ≤ ·) w A c l := by
  have ho' := ho
  rcases ho.2 with ⟨rfl, h0⟩ | ⟨g, cap, cur, rfl, hb, hg, hnc, _⟩
  · have : l = [] := List.length_eq_zero_iff.1 h0
    subst this
    exact ⟨none, 0, rfl, by simp, by simp, fun _ => rfl, fun j i hj => by simp at hj⟩
  · refine ⟨_, cap, rfl, hl, hnc, fun h => by simp at h, fun j i hj => ?_⟩
    have hjl := (List.getElem?_eq_some_iff.1 hj).1
    have hi : i = l[j] := by rw [List.getElem?_eq_getElem hjl] at hj; exact (Option.some.inj hj).symm
    subst hi
    refine ⟨g, 0, (h j).1, (h j).2, rfl, (Array.getElem?_eq_some_iff.1 hg).1, hb, ?_, (ha j _ hj).q⟩
    rw [Nat.zero_add]
    exact hc.insAt (own_cells ho') hjl (ha j _ hj).r
theorem RBlkQ.of_own {w : World} {base : Nat} {e : TypeId} {v : Value} {l : List BlkD} {vs : List Value} {h : HdF} (ho : w.ownsRow base e 5 v l.length vs) (hc : CBlk vs l h) (hl : l.length ≤ 140737488351232) (ha : ∀ j i, l[j]? = some i → RInsQ (base ≤ ·) w (h j).1 (h j).2 i.ins) :
    ∃ A c, v = .slice A l.length c ∧ RBlkQ (base ≤ ·) w A c l := by
  have ho' := ho
  rcases ho.2 with ⟨rfl, h0⟩ | ⟨g, cap, cur, rfl, hb, hg, hnc, _⟩
  · have : l = [] := List.length_eq_zero_iff.1 h0
    subst this
    exact ⟨none, 0, rfl, by simp, by simp, fun _ => rfl, fun j i hj => by simp at hj⟩
  · refine ⟨_, cap, rfl, hl, hnc, fun h => by simp at h, fun j i hj => ?_⟩
    have hjl := (List.getElem?_eq_some_iff.1 hj).1
    have hi : i = l[j] := by rw [List.getElem?_eq_getElem hjl] at hj; exact (Option.some.inj hj).symm
    subst hi
    refine ⟨g, 0, (h j).1, (h j).2, rfl, (Array.getElem?_eq_some_iff.1 hg).1, hb, ?_, ha j _ hj⟩
    rw [Nat.zero_add]
    exact hc.blkAt (own_cells ho') hjl (ha j _ hj).r
theorem KeepQ.of_below {Q : Nat → Prop} {w w' : World} {N : Nat} (h : Below N w w') (hN : w.heap.size ≤ N) : KeepQ Q w w' := ⟨h.size, fun b _ hb => h.block b (by omega)⟩
theorem KeepQ.of_grown {Q : Nat → Prop} {w w' : World} {row : Option Nat} (h : w.grownBy w' row) (hN : ∀ k, row = some k → ¬ Q k) : KeepQ Q w w' := ⟨h.size, fun b hQ hb => h.block b hb (fun e => hN b e.symm hQ)⟩
theorem KeepQ.trans {Q : Nat → Prop} {w w1 w2 : World} (h : KeepQ Q w w1) (h' : KeepQ Q w1 w2) : KeepQ Q w w2 := ⟨Nat.le_trans h.size h'.size, fun b hQ hb => (h'.block b hQ (Nat.lt_of_lt_of_le hb h.size)).trans (h.block b hQ hb)⟩
theorem KeepQ.refl (Q : Nat → Prop) (w : World) : KeepQ Q w w := ⟨Nat.le_refl _, fun _ _ _ => rfl⟩
end Go.Proofs.Ytnbmmfkkjceehaa
