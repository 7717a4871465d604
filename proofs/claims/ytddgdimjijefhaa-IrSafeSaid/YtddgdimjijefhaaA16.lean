/- Contract: awake of chapter 3 (the example). -/
import Derived.Test.YtddgdimjijefhaaA15
import Derived.Test.YtddgdimjijefhaaA13
namespace Go.Proofs.Ytddgdimjijefhaa
set_option linter.unusedSimpArgs false
set_option linter.unusedVariables false
open Go.RowKit

theorem InsAt.mk0 {w : World} {b : Nat} {i : InsD} (hi : i.args = []) (h0 : w.cell? ⟨b, 0, none⟩ = some (.int .i64 i.op)) (h1 : w.cell? ⟨b, 1, none⟩ = some (.int .i64 i.dst)) (h2 : w.cell? ⟨b, 2, none⟩ = some (.int .i64 i.a)) (h3 : w.cell? ⟨b, 3, none⟩ = some (.int .i64 i.b)) (h4 : w.cell? ⟨b, 4, none⟩ = some (.int .i64 i.imm)) (h5 : w.cell? ⟨b, 5, none⟩ = some (.int .i64 i.callee)) (h6 : w.cell? ⟨b, 6, none⟩ = some (.slice none 0 0)) (h7 : w.cell? ⟨b, 7, none⟩ = some (.int .i64 i.many)) : InsAt w b 0 none 0 i :=
  ⟨h0, h1, h2, h3, h4, h5, by rw [hi]; exact h6, h7, by rw [hi]; exact RI.empty w⟩
theorem RIns.one {w : World} {b : Nat} {A : Option Addr} {c : Nat} {i : InsD} (hb : b < w.heap.size) (h : InsAt w b 0 A c i) : RIns w (some ⟨b, 0, none⟩) 1 [i] :=
  ⟨by simp, by simp, fun h => by simp at h, fun j y hj => ⟨b, 0, A, c, rfl, hb, by
    match j, hj with
    | 0, hj => simp at hj; subst hj; simpa using h⟩⟩
theorem RBlk.one {w : World} {b : Nat} {A : Option Addr} {c : Nat} {x : BlkD} (hb : b < w.heap.size) (h : BlkAt w b 0 A c x) : RBlk w (some ⟨b, 0, none⟩) 1 [x] :=
  ⟨by simp, by simp, fun h => by simp at h, fun j y hj => ⟨b, 0, A, c, rfl, hb, by
    match j, hj with
    | 0, hj => simp at hj; subst hj; simpa using h⟩⟩
def insFive : InsD := ⟨1, 1, 0, 0, 5, 0, [], 0⟩
def fOne (v : Int) : FnD := ⟨[], [⟨[insFive], ⟨3, v, 0, 0⟩⟩]⟩
theorem right_fOne : rightI (fOne 1) = 0 := by
  have h1 : longB (fOne 1) = false := by decide
  have h2 : wholeB (fOne 1) = true := by decide
  have h3 : edgesOK (fOne 1) ∧ ∀ b, b < (fOne 1).blocks.length → Reach (fOne 1) b := by
    refine ⟨fun x hx t ht => ?_, fun b hb => ?_⟩
    · have : x = ⟨[insFive], ⟨3, 1, 0, 0⟩⟩ := by simpa [fOne] using hx
      subst this
      have : toL ⟨3, 1, 0, 0⟩ = [] := by decide
      rw [this] at ht; simp at ht
    · have : b = 0 := by simp [fOne] at hb; omega
      subst this; exact .zero
  have h4 : valuedB (fOne 1) = true := by
    unfold valuedB
    rw [decide_eq_true_eq]
    intro b hb
    have : b = 0 := by simp [fOne] at hb; omega
    subst this
    have e1 : readsL insFive = [] := by decide
    have e2 : needsL ⟨3, 1, 0, 0⟩ = [1] := by decide
    have e3 : definesI insFive = 1 := by decide
    simp [fOne, pastB, pastRun, e1, e2, e3, hasB, updF]
  unfold rightI
  rw [h1, h2, if_neg (by decide), if_neg (by decide), if_neg (fun h => h h3), h4]; rfl
theorem right_gOne : rightI (fOne 2) = 8 := by
  have h1 : longB (fOne 2) = false := by decide
  have h2 : wholeB (fOne 2) = true := by decide
  have h3 : edgesOK (fOne 2) ∧ ∀ b, b < (fOne 2).blocks.length → Reach (fOne 2) b := by
    refine ⟨fun x hx t ht => ?_, fun b hb => ?_⟩
    · have : x = ⟨[insFive], ⟨3, 2, 0, 0⟩⟩ := by simpa [fOne] using hx
      subst this
      have : toL ⟨3, 2, 0, 0⟩ = [] := by decide
      rw [this] at ht; simp at ht
    · have : b = 0 := by simp [fOne] at hb; omega
      subst this; exact .zero
  have h4 : valuedB (fOne 2) = false := by
    unfold valuedB
    rw [decide_eq_false_iff_not]
    intro h
    have h0 := h 0 (by simp [fOne])
    have e1 : readsL insFive = [] := by decide
    have e2 : needsL ⟨3, 2, 0, 0⟩ = [2] := by decide
    have e3 : definesI insFive = 1 := by decide
    have hb : bareF (fOne 2) 0 2 = false := by
      unfold bareF
      have : Bare (fOne 2) 2 0 := .start (by simp [fOne])
      simp [this]
    have h5 : (fOne 2).blocks[0]'(by simp [fOne]) = ⟨[insFive], ⟨3, 2, 0, 0⟩⟩ := rfl
    rw [h5] at h0
    simp [pastB, pastRun, e1, e2, e3, hasB, updF, hb] at h0
  unfold rightI
  rw [h1, h2, if_neg (by decide), if_neg (by decide), if_neg (fun h => h h3), h4]; rfl
theorem vars_fOne : (varsL (fOne 1)).length = 1 := by decide
theorem size_fOne : sizeI (fOne 1) = 2 := by decide

set_option maxHeartbeats 4000000 in
theorem awake_any (w : World) : Calls Try.prog 15 #[] w (RetBb true w) := by
  go_enter Try.func15, Try.ntmps15
  go_wp2_with fail
  obtain ⟨W, hW⟩ : ∃ W : World, W = (((((w.alloc (.cells #[.int .i64 1, .int .i64 1, .int .i64 0, .int .i64 0, .int .i64 5, .int .i64 0, .slice none 0 0, .int .i64 0] 45)).alloc (.cells #[.slice (some ⟨w.heap.size, 0, none⟩) 1 1, .int .i64 3, .int .i64 1, .int .i64 0, .int .i64 0] 39)).alloc (.cells #[.slice none 0 0, .slice (some ⟨w.heap.size + 1, 0, none⟩) 1 1] 25)).alloc (.cells #[.slice (some ⟨w.heap.size, 0, none⟩) 1 1, .int .i64 3, .int .i64 2, .int .i64 0, .int .i64 0] 39)).alloc (.cells #[.slice none 0 0, .slice (some ⟨w.heap.size + 1 + 1 + 1, 0, none⟩) 1 1] 25)) := ⟨_, rfl⟩
  rw [← hW]
  have HL : Hid (w.heap.size + 1 + 1 < W.heap.size ∧ w.heap.size + 1 + 1 + 1 + 1 < W.heap.size) := Lib.hid (by rw [hW]; simp)
  have H0 : Hid (W.cell? ⟨w.heap.size + 1 + 1, 0, none⟩ = some (.slice none 0 0)) := Lib.hid (by rw [hW]; simp [go_sem])
  have H1 : Hid (W.cell? ⟨w.heap.size + 1 + 1, 1, none⟩ = some (.slice (some ⟨w.heap.size + 1, 0, none⟩) 1 1)) := Lib.hid (by rw [hW]; simp [go_sem])
  have H2 : Hid (W.cell? ⟨w.heap.size + 1 + 1 + 1 + 1, 0, none⟩ = some (.slice none 0 0)) := Lib.hid (by rw [hW]; simp [go_sem])
  have H3 : Hid (W.cell? ⟨w.heap.size + 1 + 1 + 1 + 1, 1, none⟩ = some (.slice (some ⟨w.heap.size + 1 + 1 + 1, 0, none⟩) 1 1)) := Lib.hid (by rw [hW]; simp [go_sem])
  have HI : Hid (RIns W (some ⟨w.heap.size, 0, none⟩) 1 [insFive]) := Lib.hid (RIns.one (by rw [hW]; simp; try omega) (InsAt.mk0 rfl (by rw [hW]; simp [go_sem, insFive]) (by rw [hW]; simp [go_sem, insFive]) (by rw [hW]; simp [go_sem, insFive]) (by rw [hW]; simp [go_sem, insFive]) (by rw [hW]; simp [go_sem, insFive]) (by rw [hW]; simp [go_sem, insFive]) (by rw [hW]; simp [go_sem, insFive]) (by rw [hW]; simp [go_sem, insFive])))
  have HF : Hid (RBlk W (some ⟨w.heap.size + 1, 0, none⟩) 1 (fOne 1).blocks) := Lib.hid (RBlk.one (by rw [hW]; simp; try omega) ⟨by rw [hW]; simp [go_sem], by rw [hW]; simp [go_sem], by rw [hW]; simp [go_sem], by rw [hW]; simp [go_sem], by rw [hW]; simp [go_sem], HI.out⟩)
  have HG : Hid (RBlk W (some ⟨w.heap.size + 1 + 1 + 1, 0, none⟩) 1 (fOne 2).blocks) := Lib.hid (RBlk.one (by rw [hW]; simp) ⟨by rw [hW]; simp [go_sem], by rw [hW]; simp [go_sem], by rw [hW]; simp [go_sem], by rw [hW]; simp [go_sem], by rw [hW]; simp [go_sem], HI.out⟩)
  have HB : Hid (Below w.heap.size w W) := Lib.hid (by rw [hW]; go_grown)
  have HB0 : Hid (Below W.heap.size W W) := Lib.hid (Below.refl _ _)
  clear hW
  refine (right_any _ none 0 (some ⟨w.heap.size + 1, 0, none⟩) 1 (fOne 1) (RI.empty _) (HF.out.below HB0.out)).mono ?_
  rintro e w1 ⟨rfl, hb⟩
  have HB1 : Hid (Below W.heap.size W w1) := Lib.hid (HB0.out.trans (hb.mono HB0.out.size))
  have d0 := (HB1.out.cell (p := ⟨w.heap.size + 1 + 1, 0, none⟩) HL.out.1).trans H0.out
  have d1 := (HB1.out.cell (p := ⟨w.heap.size + 1 + 1, 1, none⟩) HL.out.1).trans H1.out
  have d2 := (HB1.out.cell (p := ⟨w.heap.size + 1 + 1 + 1 + 1, 0, none⟩) HL.out.2).trans H2.out
  have d3 := (HB1.out.cell (p := ⟨w.heap.size + 1 + 1 + 1 + 1, 1, none⟩) HL.out.2).trans H3.out
  clear hb
  rw [right_fOne]
  go_wp2_with fail
  clear d0 d1 d2 d3
  refine (right_any _ none 0 (some ⟨w.heap.size + 1 + 1 + 1, 0, none⟩) 1 (fOne 2) (RI.empty _) (HG.out.below HB1.out)).mono ?_
  rintro e w2 ⟨rfl, hb⟩
  have HB2 : Hid (Below W.heap.size W w2) := Lib.hid (HB1.out.trans (hb.mono HB1.out.size))
  have d0 := (HB2.out.cell (p := ⟨w.heap.size + 1 + 1, 0, none⟩) HL.out.1).trans H0.out
  have d1 := (HB2.out.cell (p := ⟨w.heap.size + 1 + 1, 1, none⟩) HL.out.1).trans H1.out
  have d2 := (HB2.out.cell (p := ⟨w.heap.size + 1 + 1 + 1 + 1, 0, none⟩) HL.out.2).trans H2.out
  have d3 := (HB2.out.cell (p := ⟨w.heap.size + 1 + 1 + 1 + 1, 1, none⟩) HL.out.2).trans H3.out
  clear hb
  rw [right_gOne]
  go_wp2_with fail
  clear d0 d1 d2 d3
  refine (vars_any _ none 0 (some ⟨w.heap.size + 1, 0, none⟩) 1 (fOne 1) (RI.empty _) (HF.out.below HB2.out)).mono ?_
  rintro e w3 ⟨v, rfl, hb, hown⟩
  have HB3 : Hid (Below W.heap.size W w3) := Lib.hid (HB2.out.trans (hb.mono HB2.out.size))
  have d0 := (HB3.out.cell (p := ⟨w.heap.size + 1 + 1, 0, none⟩) HL.out.1).trans H0.out
  have d1 := (HB3.out.cell (p := ⟨w.heap.size + 1 + 1, 1, none⟩) HL.out.1).trans H1.out
  have d2 := (HB3.out.cell (p := ⟨w.heap.size + 1 + 1 + 1 + 1, 0, none⟩) HL.out.2).trans H2.out
  have d3 := (HB3.out.cell (p := ⟨w.heap.size + 1 + 1 + 1 + 1, 1, none⟩) HL.out.2).trans H3.out
  clear hb
  obtain ⟨A3, c3, rfl, _⟩ := ownsRow_RI hown (by rw [vars_fOne]; omega)
  rw [vars_fOne]
  clear hown
  go_wp2_with fail
  clear d0 d1 d2 d3
  refine (size_any _ none 0 (some ⟨w.heap.size + 1, 0, none⟩) 1 (fOne 1) (RI.empty _) (HF.out.below HB3.out)).mono ?_
  rintro e w4 ⟨rfl, hb⟩
  have HB4 : Hid (Below W.heap.size W w4) := Lib.hid (HB3.out.trans (hb.mono HB3.out.size))
  have d0 := (HB4.out.cell (p := ⟨w.heap.size + 1 + 1, 0, none⟩) HL.out.1).trans H0.out
  have d1 := (HB4.out.cell (p := ⟨w.heap.size + 1 + 1, 1, none⟩) HL.out.1).trans H1.out
  have d2 := (HB4.out.cell (p := ⟨w.heap.size + 1 + 1 + 1 + 1, 0, none⟩) HL.out.2).trans H2.out
  have d3 := (HB4.out.cell (p := ⟨w.heap.size + 1 + 1 + 1 + 1, 1, none⟩) HL.out.2).trans H3.out
  clear hb
  rw [size_fOne]
  clear d0 d1 d2 d3
  go_wp2_with fail
  go_ret
  exact ⟨rfl, HB.out.trans (HB4.out.mono HB.out.size)⟩
end Go.Proofs.Ytddgdimjijefhaa
