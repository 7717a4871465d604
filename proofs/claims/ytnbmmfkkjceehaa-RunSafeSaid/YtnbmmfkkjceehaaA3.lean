/- Contracts: slices.Clone of ints, ir.To, ir.Reads. -/
import Derived.Test.YtnbmmfkkjceehaaA2
import Derived.Deep.LoopGhost
import Derived.Lib.Walk
import Derived.Lib.SliceRun
import Derived.WalkSpells
namespace Go.Proofs.Ytnbmmfkkjceehaa
set_option linter.unusedSimpArgs false
set_option linter.unusedVariables false
open Go.RowKit

theorem Try.info3 : (Try.prog.info? 3).map (fun i => (i.zero, i.size, i.bytes)) = some (some (.int .i64 0), 1, 8) := by kernel_rfl

set_option maxHeartbeats 2000000 in
set_option maxRecDepth 100000 in
theorem clone_any (w : World) (A : Option Addr) (c : Nat) (xs : List Int) (h : RI w A c xs) (hbig : xs.length * 8 ≤ 140737488355328) :
    Calls Try.prog 28 #[.slice A xs.length c] w (RetRow 3 xs w) := by
  have q22 : ∀ (w : World) (a : Option Addr) (n c n' c' : Nat), (binOp .eql 27 (.slice a n c) (.slice none n' c')).run Try.prog w = .ok (.bool a.isNone) w := fun w a n c n' c' => Lib.run_eql_slice_nil w _ _ a n c n' c' Try.underlying27
  have u22 : ∀ w, Sem.run Try.prog (underlying 27) w = .ok (TypeDesc.slice 3) w := run_underlying Try.underlying27
  have H := Lib.hid h
  clear h
  cases A with
  | none =>
    obtain ⟨rfl, rfl⟩ := H.out.none_nil
    go_enter Try.func28, Try.ntmps28
    go_wp2
    go_ret
    exact RetRow.nil (Below.refl _ _)
  | some ad =>
    go_enter Try.func28, Try.ntmps28
    go_wp2_with (at_builtin; refine wpList_append_ints rfl _ _ 27 rfl w.heap.size 3 Try.underlying27 Try.info3 _ [] rfl (World.ownsRow_made w #[] 0 (Nat.le_refl _) (Nat.zero_le _) rfl) (some ad) c _ xs rfl rfl (H.out.below (by go_grown)) (by simp; omega) (by simp) ?_; intro v' w1 hown hgrow)
    go_ret
    exact ⟨v', rfl, ((Below.refl _ w).alloc (Nat.le_refl _) _).grown hgrow (by simp) (by intro k hk; simp [Value.ownBlock, Act.eval] at hk; omega), by simpa using hown⟩

def toL (t : TermD) : List Int := if isTermB t then (if t.kind = 1 then [t.t0] else if t.kind = 2 then [t.t0, t.t1] else []) else []
set_option maxHeartbeats 2000000 in
set_option maxRecDepth 100000 in
theorem to_any (w : World) (t : TermD) : Calls Try.prog 33 #[termV t] w (RetRow 3 (toL t) w) := by
  obtain ⟨b, hb⟩ : ∃ b, isTermB t = b := ⟨_, rfl⟩
  have D : toL t = if b then (if t.kind = 1 then [t.t0] else if t.kind = 2 then [t.t0, t.t1] else []) else [] := by unfold toL; rw [hb]
  have HB := Lib.hid hb
  have HD := Lib.hid D
  clear D hb
  simp only [termV]
  cases b
  · go_enter Try.func33, Try.ntmps33
    go_wp2_with (go_at_call 31; refine (isTerm_any _ t).mono ?_; rintro e w1 ⟨rfl, hb⟩; rw [HB.out]; obtain ⟨hc, hf⟩ := bcell hb; have hz : w.heap.size < w1.heap.size := Nat.lt_of_lt_of_le (by simp) hb.size; simp only [World.size_alloc] at hc hf)
    go_ret
    rw [HD.out]
    exact RetRow.nil (((Below.refl _ _).alloc (Nat.le_refl _) _).trans (hb.mono (by simp)))
  · by_cases h1 : t.kind = 1
    · have e1 : (t.kind == 1) = true := by simpa using h1
      have HD1 : Hid (toL t = [t.t0]) := by rw [HD.out, if_pos rfl, if_pos h1]; rfl
      clear h1 HD
      go_enter Try.func33, Try.ntmps33
      go_wp2_with (go_at_call 31; refine (isTerm_any _ t).mono ?_; rintro e w1 ⟨rfl, hb⟩; rw [HB.out]; obtain ⟨hc, hf⟩ := bcell hb; have hz : w.heap.size < w1.heap.size := Nat.lt_of_lt_of_le (by simp) hb.size; simp only [World.size_alloc] at hc hf)
      go_ret
      rw [HD1.out]
      exact ⟨_, rfl, (((Below.refl _ _).alloc (Nat.le_refl _) _).trans (hb.mono (by simp))).alloc (Nat.le_of_lt hz) _, World.ownsRow_lit w1 #[.int .i64 t.t0] 1 (Nat.le_of_lt hz) (by decide) rfl⟩
    by_cases h2 : t.kind = 2
    · have e1 : (t.kind == 1) = false := by simpa using h1
      have e2 : (t.kind == 2) = true := by simpa using h2
      have HD2 : Hid (toL t = [t.t0, t.t1]) := by rw [HD.out, if_pos rfl, if_neg h1, if_pos h2]; rfl
      clear h1 h2 HD
      go_enter Try.func33, Try.ntmps33
      go_wp2_with (first
        | (go_at_call 31; refine (isTerm_any _ t).mono ?_; rintro e w1 ⟨rfl, hb⟩; rw [HB.out]; obtain ⟨hc, hf⟩ := bcell hb; have hz : w.heap.size < w1.heap.size := Nat.lt_of_lt_of_le (by simp) hb.size; simp only [World.size_alloc] at hc hf)
        | (go_at_call 28; refine (clone_any _ _ _ [t.t0, t.t1] (RI.two hz (by simp [go_sem, hc]) (by simp [go_sem, hc])) (by simp)).mono ?_; rintro e w2 ⟨v, rfl, hb2, hown⟩))
      go_ret
      rw [HD2.out]
      exact ⟨_, rfl, (((Below.refl _ _).alloc (Nat.le_refl _) _).trans (hb.mono (by simp))).trans (hb2.mono (Nat.le_of_lt hz)), ownsRow_weaken hown (Nat.le_of_lt hz)⟩
    · have e1 : (t.kind == 1) = false := by simpa using h1
      have e2 : (t.kind == 2) = false := by simpa using h2
      have HD2 : Hid (toL t = []) := by rw [HD.out, if_pos rfl, if_neg h1, if_neg h2]; rfl
      clear h1 h2 HD
      go_enter Try.func33, Try.ntmps33
      go_wp2_with (go_at_call 31; refine (isTerm_any _ t).mono ?_; rintro e w1 ⟨rfl, hb⟩; rw [HB.out]; obtain ⟨hc, hf⟩ := bcell hb; have hz : w.heap.size < w1.heap.size := Nat.lt_of_lt_of_le (by simp) hb.size; simp only [World.size_alloc] at hc hf)
      go_ret
      rw [HD2.out]
      exact RetRow.nil (((Below.refl _ _).alloc (Nat.le_refl _) _).trans (hb.mono (by simp)))
end Go.Proofs.Ytnbmmfkkjceehaa
