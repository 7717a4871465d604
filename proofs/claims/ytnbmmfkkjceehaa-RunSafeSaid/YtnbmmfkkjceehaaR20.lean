/- awake of chapter 8: three runs. -/
import Derived.Test.YtnbmmfkkjceehaaR18
namespace Go.Proofs.Ytnbmmfkkjceehaa
set_option linter.unusedSimpArgs false
set_option linter.unusedVariables false
open Go.RowKit

theorem InsAt.mk0 {w : World} {b o : Nat} {i : InsD} (hi : i.args = []) (h0 : w.cell? ⟨b, o + 0, none⟩ = some (.int .i64 i.op)) (h1 : w.cell? ⟨b, o + 1, none⟩ = some (.int .i64 i.dst)) (h2 : w.cell? ⟨b, o + 2, none⟩ = some (.int .i64 i.a)) (h3 : w.cell? ⟨b, o + 3, none⟩ = some (.int .i64 i.b)) (h4 : w.cell? ⟨b, o + 4, none⟩ = some (.int .i64 i.imm)) (h5 : w.cell? ⟨b, o + 5, none⟩ = some (.int .i64 i.callee)) (h6 : w.cell? ⟨b, o + 6, none⟩ = some (.slice none 0 0)) (h7 : w.cell? ⟨b, o + 7, none⟩ = some (.int .i64 i.many)) : InsAt w b o none 0 i :=
  ⟨h0, h1, h2, h3, h4, h5, by rw [hi]; exact h6, h7, by rw [hi]; exact RI.empty w⟩
theorem RIns.one {w : World} {b : Nat} {A : Option Addr} {c : Nat} {i : InsD} (hb : b < w.heap.size) (h : InsAt w b 0 A c i) : RIns w (some ⟨b, 0, none⟩) 1 [i] :=
  ⟨by simp, by simp, fun h => by simp at h, fun j y hj => ⟨b, 0, A, c, rfl, hb, by
    match j, hj with
    | 0, hj => simp at hj; subst hj; simpa using h⟩⟩
theorem RIns.two {w : World} {b : Nat} {i k : InsD} (hb : b < w.heap.size) (h : InsAt w b 0 none 0 i) (g : InsAt w b 8 none 0 k) : RIns w (some ⟨b, 0, none⟩) 2 [i, k] :=
  ⟨by simp, by simp, fun h => by simp at h, fun j y hj => ⟨b, 0, none, 0, rfl, hb, by
    match j, hj with
    | 0, hj => simp at hj; subst hj; simpa using h
    | 1, hj => simp at hj; subst hj; simpa using g⟩⟩
theorem RBlk.one {w : World} {b : Nat} {A : Option Addr} {c : Nat} {x : BlkD} (hb : b < w.heap.size) (h : BlkAt w b 0 A c x) : RBlk w (some ⟨b, 0, none⟩) 1 [x] :=
  ⟨by simp, by simp, fun h => by simp at h, fun j y hj => ⟨b, 0, A, c, rfl, hb, by
    match j, hj with
    | 0, hj => simp at hj; subst hj; simpa using h⟩⟩
def insK : InsD := ⟨1, 1, 0, 0, 0, 0, [], 0⟩
def insD : InsD := ⟨5, 1, 1, 1, 0, 0, [], 0⟩
def insC : InsD := ⟨13, 1, 0, 0, 0, 3, [], 0⟩
def endOne : TermD := ⟨3, 1, 0, 0⟩
def fDiv : FnD := ⟨[], [⟨[insK, insD], endOne⟩]⟩
def fCall : FnD := ⟨[], [⟨[insC], endOne⟩]⟩
theorem right_of1 (l : List InsD) (h1 : longB ⟨[], [⟨l, endOne⟩]⟩ = false) (h2 : wholeB ⟨[], [⟨l, endOne⟩]⟩ = true) (h4 : valuedB ⟨[], [⟨l, endOne⟩]⟩ = true) : rightI ⟨[], [⟨l, endOne⟩]⟩ = 0 := by
  have h3 : edgesOK ⟨[], [⟨l, endOne⟩]⟩ ∧ ∀ b, b < (⟨[], [⟨l, endOne⟩]⟩ : FnD).blocks.length → Reach ⟨[], [⟨l, endOne⟩]⟩ b := by
    refine ⟨fun x hx t ht => ?_, fun b hb => ?_⟩
    · have : x = ⟨l, endOne⟩ := by simpa using hx
      subst this
      have : toL endOne = [] := by decide
      rw [this] at ht; simp at ht
    · have : b = 0 := by simp at hb; omega
      subst this; exact .zero
  unfold rightI
  rw [h1, h2, if_neg (by decide), if_neg (by decide), if_neg (fun h => h h3), h4]; rfl
theorem right_fDiv : rightI fDiv = 0 := by
  refine right_of1 _ (by decide) (by decide) ?_
  unfold valuedB
  rw [decide_eq_true_eq]
  intro b hb
  have : b = 0 := by simp at hb; omega
  subst this
  have e1 : readsL insK = [] := by decide
  have e2 : readsL insD = [1, 1] := by decide
  have e3 : needsL endOne = [1] := by decide
  have e4 : definesI insK = 1 := by decide
  have e5 : definesI insD = 1 := by decide
  simp [pastB, pastRun, e1, e2, e3, e4, e5, hasB, updF]
theorem right_fCall : rightI fCall = 0 := by
  refine right_of1 _ (by decide) (by decide) ?_
  unfold valuedB
  rw [decide_eq_true_eq]
  intro b hb
  have : b = 0 := by simp at hb; omega
  subst this
  have e1 : readsL insC = [] := by decide
  have e3 : needsL endOne = [1] := by decide
  have e4 : definesI insC = 1 := by decide
  simp [pastB, pastRun, e1, e3, e4, hasB, updF]
def endDiv : RunD := itR fDiv (runB fDiv [] [] []) 9
def endNo : RunD := itR fCall (runB fCall [] [] []) 9
def endYes : RunD := itR fCall (runB fCall [] [] [7]) 9
theorem endDiv_is : endDiv.fin = 2 ∧ endDiv.steps = 2 := by constructor <;> kernel_rfl
theorem endNo_is : endNo.fin = 2 ∧ endNo.calls.length = 1 := by constructor <;> kernel_rfl
theorem endYes_is : endYes.fin = 1 ∧ endYes.value = 7 := by constructor <;> kernel_rfl
instance wfI_dec (n : Int) : Decidable (wfI n) := by unfold wfI; infer_instance
theorem insK_w : InsW insK := ⟨by decide, by decide, by decide, by decide, by decide, by decide, by decide, fun v hv => by cases hv⟩
theorem insD_w : InsW insD := ⟨by decide, by decide, by decide, by decide, by decide, by decide, by decide, fun v hv => by cases hv⟩
theorem insC_w : InsW insC := ⟨by decide, by decide, by decide, by decide, by decide, by decide, by decide, fun v hv => by cases hv⟩
theorem endOne_w : TermW endOne := ⟨by decide, by decide, by decide, by decide⟩
theorem fnw1 (l : List InsD) (h : ∀ i ∈ l, InsW i) : FnW ⟨[], [⟨l, endOne⟩]⟩ := by
  refine ⟨fun v hv => (by cases hv), fun x hx => ?_⟩
  have : x = ⟨l, endOne⟩ := by simpa using hx
  subst this
  exact ⟨h, endOne_w⟩
theorem fDiv_w : FnW fDiv := fnw1 _ (fun i hi => by simp at hi; rcases hi with rfl | rfl; exact insK_w; exact insD_w)
theorem fCall_w : FnW fCall := fnw1 _ (fun i hi => by simp at hi; subst hi; exact insC_w)
set_option maxHeartbeats 4000000 in
theorem awake_any (w : World) : Calls Try.prog 8 #[] w (RetBb true w) := by
  go_enter Try.func8, Try.ntmps8
  go_upto_region 4 with fail
  obtain ⟨W, hW⟩ : ∃ W : World, W = (((((((w.alloc (.cells #[.int .i64 3, .int .i64 1, .int .i64 0, .int .i64 0] 53)).alloc (.cells #[.int .i64 1, .int .i64 1, .int .i64 0, .int .i64 0, .int .i64 0, .int .i64 0, .slice none 0 0, .int .i64 0, .int .i64 5, .int .i64 1, .int .i64 1, .int .i64 1, .int .i64 0, .int .i64 0, .slice none 0 0, .int .i64 0] 59)).alloc (.cells #[.slice (some ⟨w.heap.size + 1, 0, none⟩) 2 2, .int .i64 3, .int .i64 1, .int .i64 0, .int .i64 0] 55)).alloc (.cells #[.slice none 0 0, .slice (some ⟨w.heap.size + 1 + 1, 0, none⟩) 1 1] 30)).alloc (.cells #[.int .i64 13, .int .i64 1, .int .i64 0, .int .i64 0, .int .i64 0, .int .i64 3, .slice none 0 0, .int .i64 0] 59)).alloc (.cells #[.slice (some ⟨w.heap.size + 1 + 1 + 1 + 1, 0, none⟩) 1 1, .int .i64 3, .int .i64 1, .int .i64 0, .int .i64 0] 55)).alloc (.cells #[.slice none 0 0, .slice (some ⟨w.heap.size + 1 + 1 + 1 + 1 + 1, 0, none⟩) 1 1] 30)) := ⟨_, rfl⟩
  rw [← hW]
  have HS0 : Hid (w.heap.size + 1 + 1 + 1 < W.heap.size ∧ w.heap.size + 1 + 1 + 1 + 1 + 1 + 1 < W.heap.size) := Lib.hid (by rw [hW]; simp)
  have HI : Hid (RIns W (some ⟨w.heap.size + 1, 0, none⟩) 2 [insK, insD]) := Lib.hid (RIns.two (by rw [hW]; simp; try omega) (InsAt.mk0 rfl (by rw [hW]; simp [go_sem, insK, insD, insC, endOne]) (by rw [hW]; simp [go_sem, insK, insD, insC, endOne]) (by rw [hW]; simp [go_sem, insK, insD, insC, endOne]) (by rw [hW]; simp [go_sem, insK, insD, insC, endOne]) (by rw [hW]; simp [go_sem, insK, insD, insC, endOne]) (by rw [hW]; simp [go_sem, insK, insD, insC, endOne]) (by rw [hW]; simp [go_sem, insK, insD, insC, endOne]) (by rw [hW]; simp [go_sem, insK, insD, insC, endOne])) (InsAt.mk0 rfl (by rw [hW]; simp [go_sem, insK, insD, insC, endOne]) (by rw [hW]; simp [go_sem, insK, insD, insC, endOne]) (by rw [hW]; simp [go_sem, insK, insD, insC, endOne]) (by rw [hW]; simp [go_sem, insK, insD, insC, endOne]) (by rw [hW]; simp [go_sem, insK, insD, insC, endOne]) (by rw [hW]; simp [go_sem, insK, insD, insC, endOne]) (by rw [hW]; simp [go_sem, insK, insD, insC, endOne]) (by rw [hW]; simp [go_sem, insK, insD, insC, endOne])))
  have HJ : Hid (RIns W (some ⟨w.heap.size + 1 + 1 + 1 + 1, 0, none⟩) 1 [insC]) := Lib.hid (RIns.one (by rw [hW]; simp; try omega) (InsAt.mk0 rfl (by rw [hW]; simp [go_sem, insK, insD, insC, endOne]) (by rw [hW]; simp [go_sem, insK, insD, insC, endOne]) (by rw [hW]; simp [go_sem, insK, insD, insC, endOne]) (by rw [hW]; simp [go_sem, insK, insD, insC, endOne]) (by rw [hW]; simp [go_sem, insK, insD, insC, endOne]) (by rw [hW]; simp [go_sem, insK, insD, insC, endOne]) (by rw [hW]; simp [go_sem, insK, insD, insC, endOne]) (by rw [hW]; simp [go_sem, insK, insD, insC, endOne])))
  have HF : Hid (RBlk W (some ⟨w.heap.size + 1 + 1, 0, none⟩) 1 fDiv.blocks) := Lib.hid (RBlk.one (by rw [hW]; simp; try omega) ⟨by rw [hW]; simp [go_sem], by rw [hW]; simp [go_sem, endOne], by rw [hW]; simp [go_sem, endOne], by rw [hW]; simp [go_sem, endOne], by rw [hW]; simp [go_sem, endOne], HI.out⟩)
  have HG : Hid (RBlk W (some ⟨w.heap.size + 1 + 1 + 1 + 1 + 1, 0, none⟩) 1 fCall.blocks) := Lib.hid (RBlk.one (by rw [hW]; simp; try omega) ⟨by rw [hW]; simp [go_sem], by rw [hW]; simp [go_sem, endOne], by rw [hW]; simp [go_sem, endOne], by rw [hW]; simp [go_sem, endOne], by rw [hW]; simp [go_sem, endOne], HJ.out⟩)
  have c0 : W.cell? ⟨w.heap.size + 1 + 1 + 1, 0, none⟩ = some (.slice none 0 0) := by rw [hW]; simp [go_sem]
  have c1 : W.cell? ⟨w.heap.size + 1 + 1 + 1, 1, none⟩ = some (.slice (some ⟨w.heap.size + 1 + 1, 0, none⟩) 1 1) := by rw [hW]; simp [go_sem]
  have c2 : W.cell? ⟨w.heap.size + 1 + 1 + 1 + 1 + 1 + 1, 0, none⟩ = some (.slice none 0 0) := by rw [hW]; simp [go_sem]
  have c3 : W.cell? ⟨w.heap.size + 1 + 1 + 1 + 1 + 1 + 1, 1, none⟩ = some (.slice (some ⟨w.heap.size + 1 + 1 + 1 + 1 + 1, 0, none⟩) 1 1) := by rw [hW]; simp [go_sem]
  have HK : Hid (∀ wr, Below W.heap.size W wr → wr.cell? ⟨w.heap.size + 1 + 1 + 1 + 1 + 1 + 1, 0, none⟩ = some (.slice none 0 0) ∧ wr.cell? ⟨w.heap.size + 1 + 1 + 1 + 1 + 1 + 1, 1, none⟩ = some (.slice (some ⟨w.heap.size + 1 + 1 + 1 + 1 + 1, 0, none⟩) 1 1)) := Lib.hid (fun wr hb => ⟨(hb.cell (p := ⟨w.heap.size + 1 + 1 + 1 + 1 + 1 + 1, 0, none⟩) HS0.out.2).trans c2, (hb.cell (p := ⟨w.heap.size + 1 + 1 + 1 + 1 + 1 + 1, 1, none⟩) HS0.out.2).trans c3⟩)
  have HB : Hid (Below w.heap.size w W) := Lib.hid (by rw [hW]; go_grown)
  have HO1 : Hid (BeginOK fDiv [] []) := Lib.hid ⟨right_fDiv, rfl, by simp⟩
  have HO2 : Hid (BeginOK fCall [] []) := Lib.hid ⟨right_fCall, rfl, by simp⟩
  clear hW c2 c3
  go_upto_region 5 with (go_at_call 10; refine (go_any _ none 0 (some ⟨w.heap.size + 1 + 1, 0, none⟩) 1 fDiv none 0 0 [] none 0 0 [] none 0 0 [] 9 (RI.empty _) HF.out (RI.empty _) rfl (RI.empty _) rfl (RI.empty _) rfl fDiv_w (by simp) (by simp) (by simp) (by simp)).mono ?_; rintro e w1 ⟨hb1, hor⟩; obtain ⟨_, _, C1, cc1, M1, mc1, rfl, _, _⟩ := (hor.resolve_left (fun h => h.1 HO1.out)).resolve_left (fun h => by have := h.2.1; omega); have HB1 := Lib.hid hb1; clear hb1 hor c0 c1; rw [show itR fDiv (runB fDiv [] [] []) (Int.toNat 9) = endDiv from rfl]; unfold resV; rw [endDiv_is.1, endDiv_is.2]; generalize endDiv.value = va1; generalize endDiv.calls.length = na1; generalize endDiv.mem.length = ma1)
  obtain ⟨W1, hW1⟩ : ∃ W1 : World, W1 = w1.alloc (.cells #[.int .i64 2, .int .i64 va1, .slice C1 na1 cc1, .slice M1 ma1 mc1, .int .i64 2] 35) := ⟨_, rfl⟩
  rw [← hW1]
  have hz1 : w1.heap.size < W1.heap.size := by rw [hW1]; simp
  have HX1 : Hid (Below W.heap.size W W1) := Lib.hid (by rw [hW1]; exact HB1.out.alloc HB1.out.size _)
  have HK1 : Hid (∀ wr, Below W1.heap.size W1 wr → wr.cell? ⟨w1.heap.size, 0, none⟩ = some (.int .i64 2) ∧ wr.cell? ⟨w1.heap.size, 4, none⟩ = some (.int .i64 2)) := Lib.hid (fun wr hb => ⟨(hb.cell (p := ⟨w1.heap.size, 0, none⟩) hz1).trans (by rw [hW1]; simp [go_sem]), (hb.cell (p := ⟨w1.heap.size, 4, none⟩) hz1).trans (by rw [hW1]; simp [go_sem])⟩)
  obtain ⟨c2, c3⟩ := HK.out _ HX1.out
  clear hW1
  go_upto_region 6 with (go_at_call 10; refine (go_any _ none 0 (some ⟨w.heap.size + 1 + 1 + 1 + 1 + 1, 0, none⟩) 1 fCall none 0 0 [] none 0 0 [] none 0 0 [] 9 (RI.empty _) (HG.out.below HX1.out) (RI.empty _) rfl (RI.empty _) rfl (RI.empty _) rfl fCall_w (by simp) (by simp) (by simp) (by simp)).mono ?_; rintro e w2 ⟨hb2, hor⟩; obtain ⟨_, _, C2, cc2, M2, mc2, rfl, _, _⟩ := (hor.resolve_left (fun h => h.1 HO2.out)).resolve_left (fun h => by have := h.2.1; omega); have HB2 := Lib.hid hb2; clear hb2 hor c2 c3; rw [show itR fCall (runB fCall [] [] []) (Int.toNat 9) = endNo from rfl]; unfold resV; rw [endNo_is.1, endNo_is.2]; generalize endNo.value = va2; generalize endNo.steps = na2; generalize endNo.mem.length = ma2)
  obtain ⟨W2, hW2⟩ : ∃ W2 : World, W2 = w2.alloc (.cells #[.int .i64 2, .int .i64 va2, .slice C2 1 cc2, .slice M2 ma2 mc2, .int .i64 na2] 35) := ⟨_, rfl⟩
  rw [← hW2]
  have hz2 : w2.heap.size < W2.heap.size := by rw [hW2]; simp
  have HX2 : Hid (Below W1.heap.size W1 W2) := Lib.hid (by rw [hW2]; exact HB2.out.alloc HB2.out.size _)
  have HY2 : Hid (Below W.heap.size W W2) := Lib.hid (HX1.out.trans (HX2.out.mono HX1.out.size))
  have HK2 : Hid (∀ wr, Below W2.heap.size W2 wr → wr.cell? ⟨w2.heap.size, 0, none⟩ = some (.int .i64 2) ∧ wr.cell? ⟨w2.heap.size, 2, none⟩ = some (.slice C2 1 cc2)) := Lib.hid (fun wr hb => ⟨(hb.cell (p := ⟨w2.heap.size, 0, none⟩) hz2).trans (by rw [hW2]; simp [go_sem]), (hb.cell (p := ⟨w2.heap.size, 2, none⟩) hz2).trans (by rw [hW2]; simp [go_sem])⟩)
  obtain ⟨c2, c3⟩ := HK.out _ HY2.out
  clear hW2
  go_upto_region 7 with (go_at_call 10; obtain ⟨V2, hV2⟩ : ∃ V2 : World, V2 = W2.alloc (.cells #[.int .i64 7] 3) := ⟨_, rfl⟩; rw [← hV2]; (have HV2 : Hid (Below W2.heap.size W2 V2) := Lib.hid (by rw [hV2]; exact (Below.refl _ _).alloc (Nat.le_refl _) _)); refine (go_any _ none 0 (some ⟨w.heap.size + 1 + 1 + 1 + 1 + 1, 0, none⟩) 1 fCall none 0 0 [] none 0 0 [] (some ⟨W2.heap.size, 0, none⟩) 1 1 [7] 9 (RI.empty _) ((HG.out.below HY2.out).below HV2.out) (RI.empty _) rfl (RI.empty _) rfl (RI.one (by rw [hV2]; simp) (by rw [hV2]; simp [go_sem])) rfl fCall_w (by simp) (by simp) (by simp; exact okI_num 7 (by omega) (by omega)) (by simp)).mono ?_; rintro e w3 ⟨hb3, hor⟩; obtain ⟨_, _, C3, cc3, M3, mc3, rfl, _, _⟩ := (hor.resolve_left (fun h => h.1 HO2.out)).resolve_left (fun h => by have := h.2.1; omega); have HB3 : Hid (Below W2.heap.size W2 w3) := Lib.hid (HV2.out.trans (hb3.mono HV2.out.size)); clear hb3 hor c2 c3 hV2; rw [show itR fCall (runB fCall [] [] [7]) (Int.toNat 9) = endYes from rfl]; unfold resV; rw [endYes_is.1, endYes_is.2]; generalize endYes.steps = va3; generalize endYes.calls.length = na3; generalize endYes.mem.length = ma3)
  obtain ⟨W3, hW3⟩ : ∃ W3 : World, W3 = w3.alloc (.cells #[.int .i64 1, .int .i64 7, .slice C3 na3 cc3, .slice M3 ma3 mc3, .int .i64 va3] 35) := ⟨_, rfl⟩
  rw [← hW3]
  have HX3 : Hid (Below W2.heap.size W2 W3) := Lib.hid (by rw [hW3]; exact HB3.out.alloc HB3.out.size _)
  have g0 : W3.cell? ⟨w3.heap.size, 0, none⟩ = some (.int .i64 1) := by rw [hW3]; simp [go_sem]
  have g1 : W3.cell? ⟨w3.heap.size, 1, none⟩ = some (.int .i64 7) := by rw [hW3]; simp [go_sem]
  obtain ⟨e0, e2⟩ := HK2.out _ HX3.out
  obtain ⟨d0, d4⟩ := HK1.out _ (HX2.out.trans (HX3.out.mono HX2.out.size))
  clear hW3
  go_wp2_with fail
  go_ret
  exact ⟨rfl, HB.out.trans ((HY2.out.trans (HX3.out.mono HY2.out.size)).mono HB.out.size)⟩
end Go.Proofs.Ytnbmmfkkjceehaa
