/- Contract: ir.Reads. -/
import Derived.Test.YtnbmmfkkjceehaaA3
namespace Go.Proofs.Ytnbmmfkkjceehaa
set_option linter.unusedSimpArgs false
set_option linter.unusedVariables false
open Go.RowKit

/-- Behind an append of an element that was boxed: what was below stays. -/
theorem reads_step {W w1 w2 : World} {B : Nat} {o : Obj} {row : Option Nat} (hb : Below B W w1) (hz : B ≤ w1.heap.size) (hg : (w1.alloc o).grownBy w2 row) (hrow : ∀ k, row = some k → B ≤ k) :
    Below B W w2 ∧ B ≤ w2.heap.size := by
  have h2 : Below B W w2 := (hb.alloc hz o).grown hg (by simp; omega) hrow
  exact ⟨h2, Nat.le_trans hz (by have := hg.size; simp at this; omega)⟩

def readsL (i : InsD) : List Int := if isInsB i then (if i.a = 0 then [] else [i.a]) ++ (if i.b = 0 then [] else [i.b]) ++ i.args else []
set_option maxHeartbeats 4000000 in
set_option maxRecDepth 100000 in
theorem reads_any (w : World) (A : Option Addr) (c : Nat) (i : InsD) (h : RI w A c i.args) (hbig : (2 + i.args.length) * 8 ≤ 140737488355328) : Calls Try.prog 19 #[insV A c i] w (RetRow 3 (readsL i) w) := by
  obtain ⟨b, hb⟩ : ∃ b, isInsB i = b := ⟨_, rfl⟩
  have D : readsL i = if b then (if i.a = 0 then [] else [i.a]) ++ (if i.b = 0 then [] else [i.b]) ++ i.args else [] := by unfold readsL; rw [hb]
  have HB := Lib.hid hb
  have HD := Lib.hid D
  have H := Lib.hid h
  clear D hb h
  simp only [insV]
  cases b
  · go_enter Try.func19, Try.ntmps19
    go_wp2_with (go_at_call 32; refine (isIns_any _ A c i (H.out.below (by go_grown))).mono ?_; rintro e w1 ⟨rfl, hb⟩; rw [HB.out]; obtain ⟨hc, hf⟩ := bcell hb; have hz : w.heap.size < w1.heap.size := Nat.lt_of_lt_of_le (by simp) hb.size; simp only [World.size_alloc] at hc hf)
    go_ret
    rw [HD.out]
    exact RetRow.nil (((Below.refl _ _).alloc (Nat.le_refl _) _).trans (hb.mono (by simp)))
  · have i0 : ∀ w, (Instr.index 51 (.agg #[.int .i64 i.a, .int .i64 i.b]) (.int .i64 0)).run Try.prog w = .ok (.int .i64 i.a) w := fun _ => by kernel_rfl
    have i1 : ∀ w, (Instr.index 51 (.agg #[.int .i64 i.a, .int .i64 i.b]) (.int .i64 1)).run Try.prog w = .ok (.int .i64 i.b) w := fun _ => by kernel_rfl
    by_cases ha : i.a = 0
    · by_cases hb0 : i.b = 0
      · have ea : (i.a != 0) = false := by simpa using ha
        have eb : (i.b != 0) = false := by simpa using hb0
        have HD2 : Hid (readsL i = (([]) ++ i.args)) := Lib.hid (by simp [HD.out, ha, hb0])
        clear ha hb0 HD
        go_enter Try.func19, Try.ntmps19
        go_wp2_with (go_at_call 32; refine (isIns_any _ A c i (H.out.below (by go_grown))).mono ?_; rintro e w1 ⟨rfl, hb⟩; rw [HB.out]; obtain ⟨hc, hf⟩ := bcell hb; have hz : w.heap.size < w1.heap.size := Nat.lt_of_lt_of_le (by simp) hb.size; simp only [World.size_alloc] at hc hf)
        have hb1 := hb
        simp only [World.size_alloc] at hb1
        have hz1 : w.heap.size + 1 ≤ w1.heap.size := hz
        refine wp_loop_rounds 3 ?_
        rw [rounds_succ]
        go_wp2
        rw [rounds_succ]
        go_wp2
        rw [rounds_succ]
        go_wp2_with (at_builtin; refine wpList_append_ints rfl (.tmp 23) (.tmp 25) 27 rfl (w.heap.size + 1) 3 Try.underlying27 Try.info3 (.slice none 0 0) ([]) rfl (World.ownsRow_nil _ _ _ _) _ c _ i.args rfl rfl (H.out.below (((Below.refl _ _).alloc (Nat.le_refl _) _).trans (hb1.mono (by omega)))) (by first | omega | (simp; done) | (simp; omega)) (by first | omega | (simp; done) | (simp; omega)) ?_; intro v1 w2 hown1 hgrow1)
        go_ret
        rw [HD2.out]
        exact ⟨_, rfl, ((Below.refl _ _).alloc (Nat.le_refl _) _).trans ((hb1.grown hgrow1 hz1 (by intro k hk; simp [Value.ownBlock] at hk)).mono (by omega)), ownsRow_weaken hown1 (by omega)⟩
      · have ea : (i.a != 0) = false := by simpa using ha
        have eb : (i.b != 0) = true := by simpa using hb0
        have HD2 : Hid (readsL i = (([] ++ [i.b]) ++ i.args)) := Lib.hid (by simp [HD.out, ha, hb0])
        clear ha hb0 HD
        go_enter Try.func19, Try.ntmps19
        go_wp2_with (go_at_call 32; refine (isIns_any _ A c i (H.out.below (by go_grown))).mono ?_; rintro e w1 ⟨rfl, hb⟩; rw [HB.out]; obtain ⟨hc, hf⟩ := bcell hb; have hz : w.heap.size < w1.heap.size := Nat.lt_of_lt_of_le (by simp) hb.size; simp only [World.size_alloc] at hc hf)
        have hb1 := hb
        simp only [World.size_alloc] at hb1
        have hz1 : w.heap.size + 1 ≤ w1.heap.size := hz
        refine wp_loop_rounds 3 ?_
        rw [rounds_succ]
        go_wp2
        rw [rounds_succ]
        go_wp2_with (at_builtin; refine wpList_append_ints rfl (.tmp 18) (.tmp 20) 27 rfl (w.heap.size + 1) 3 Try.underlying27 Try.info3 (.slice none 0 0) ([]) rfl (World.ownsRow_nil _ _ _ _) _ 1 _ [i.b] rfl rfl (RI.one (by simp) (by simp [go_sem])) (by first | omega | (simp; done) | (simp; omega)) (by first | omega | (simp; done) | (simp; omega)) ?_; intro v1 w2 hown1 hgrow1; obtain ⟨hb2, hz2⟩ := reads_step hb1 hz1 hgrow1 (by simp [Value.ownBlock]); obtain ⟨hc, hf⟩ := bcell hb2)
        clear hgrow1
        rw [rounds_succ]
        go_wp2_with (at_builtin; refine wpList_append_ints rfl (.tmp 23) (.tmp 25) 27 rfl (w.heap.size + 1) 3 Try.underlying27 Try.info3 v1 ([] ++ [i.b]) rfl hown1 _ c _ i.args rfl rfl (H.out.below (((Below.refl _ _).alloc (Nat.le_refl _) _).trans (hb2.mono (by omega)))) (by first | omega | (simp; done) | (simp; omega)) (by first | omega | (simp; done) | (simp; omega)) ?_; intro v2 w3 hown2 hgrow2)
        go_ret
        rw [HD2.out]
        exact ⟨_, rfl, ((Below.refl _ _).alloc (Nat.le_refl _) _).trans ((hb2.grown hgrow2 hz2 (by intro k hk; exact (hown1.lt k hk).1)).mono (by omega)), ownsRow_weaken hown2 (by omega)⟩
    · by_cases hb0 : i.b = 0
      · have ea : (i.a != 0) = true := by simpa using ha
        have eb : (i.b != 0) = false := by simpa using hb0
        have HD2 : Hid (readsL i = (([] ++ [i.a]) ++ i.args)) := Lib.hid (by simp [HD.out, ha, hb0])
        clear ha hb0 HD
        go_enter Try.func19, Try.ntmps19
        go_wp2_with (go_at_call 32; refine (isIns_any _ A c i (H.out.below (by go_grown))).mono ?_; rintro e w1 ⟨rfl, hb⟩; rw [HB.out]; obtain ⟨hc, hf⟩ := bcell hb; have hz : w.heap.size < w1.heap.size := Nat.lt_of_lt_of_le (by simp) hb.size; simp only [World.size_alloc] at hc hf)
        have hb1 := hb
        simp only [World.size_alloc] at hb1
        have hz1 : w.heap.size + 1 ≤ w1.heap.size := hz
        refine wp_loop_rounds 3 ?_
        rw [rounds_succ]
        go_wp2_with (at_builtin; refine wpList_append_ints rfl (.tmp 18) (.tmp 20) 27 rfl (w.heap.size + 1) 3 Try.underlying27 Try.info3 (.slice none 0 0) ([]) rfl (World.ownsRow_nil _ _ _ _) _ 1 _ [i.a] rfl rfl (RI.one (by simp) (by simp [go_sem])) (by first | omega | (simp; done) | (simp; omega)) (by first | omega | (simp; done) | (simp; omega)) ?_; intro v1 w2 hown1 hgrow1; obtain ⟨hb2, hz2⟩ := reads_step hb1 hz1 hgrow1 (by simp [Value.ownBlock]); obtain ⟨hc, hf⟩ := bcell hb2)
        clear hgrow1
        rw [rounds_succ]
        go_wp2
        rw [rounds_succ]
        go_wp2_with (at_builtin; refine wpList_append_ints rfl (.tmp 23) (.tmp 25) 27 rfl (w.heap.size + 1) 3 Try.underlying27 Try.info3 v1 ([] ++ [i.a]) rfl hown1 _ c _ i.args rfl rfl (H.out.below (((Below.refl _ _).alloc (Nat.le_refl _) _).trans (hb2.mono (by omega)))) (by first | omega | (simp; done) | (simp; omega)) (by first | omega | (simp; done) | (simp; omega)) ?_; intro v2 w3 hown2 hgrow2)
        go_ret
        rw [HD2.out]
        exact ⟨_, rfl, ((Below.refl _ _).alloc (Nat.le_refl _) _).trans ((hb2.grown hgrow2 hz2 (by intro k hk; exact (hown1.lt k hk).1)).mono (by omega)), ownsRow_weaken hown2 (by omega)⟩
      · have ea : (i.a != 0) = true := by simpa using ha
        have eb : (i.b != 0) = true := by simpa using hb0
        have HD2 : Hid (readsL i = (([] ++ [i.a] ++ [i.b]) ++ i.args)) := Lib.hid (by simp [HD.out, ha, hb0])
        clear ha hb0 HD
        go_enter Try.func19, Try.ntmps19
        go_wp2_with (go_at_call 32; refine (isIns_any _ A c i (H.out.below (by go_grown))).mono ?_; rintro e w1 ⟨rfl, hb⟩; rw [HB.out]; obtain ⟨hc, hf⟩ := bcell hb; have hz : w.heap.size < w1.heap.size := Nat.lt_of_lt_of_le (by simp) hb.size; simp only [World.size_alloc] at hc hf)
        have hb1 := hb
        simp only [World.size_alloc] at hb1
        have hz1 : w.heap.size + 1 ≤ w1.heap.size := hz
        refine wp_loop_rounds 3 ?_
        rw [rounds_succ]
        go_wp2_with (at_builtin; refine wpList_append_ints rfl (.tmp 18) (.tmp 20) 27 rfl (w.heap.size + 1) 3 Try.underlying27 Try.info3 (.slice none 0 0) ([]) rfl (World.ownsRow_nil _ _ _ _) _ 1 _ [i.a] rfl rfl (RI.one (by simp) (by simp [go_sem])) (by first | omega | (simp; done) | (simp; omega)) (by first | omega | (simp; done) | (simp; omega)) ?_; intro v1 w2 hown1 hgrow1; obtain ⟨hb2, hz2⟩ := reads_step hb1 hz1 hgrow1 (by simp [Value.ownBlock]); obtain ⟨hc, hf⟩ := bcell hb2)
        clear hgrow1
        rw [rounds_succ]
        go_wp2_with (at_builtin; refine wpList_append_ints rfl (.tmp 18) (.tmp 20) 27 rfl (w.heap.size + 1) 3 Try.underlying27 Try.info3 v1 ([] ++ [i.a]) rfl (hown1.alloc _) _ 1 _ [i.b] rfl rfl (RI.one (by simp) (by simp [go_sem])) (by first | omega | (simp; done) | (simp; omega)) (by first | omega | (simp; done) | (simp; omega)) ?_; intro v2 w3 hown2 hgrow2; obtain ⟨hb3, hz3⟩ := reads_step hb2 hz2 hgrow2 (fun k hk => (hown1.lt k hk).1); obtain ⟨hc, hf⟩ := bcell hb3)
        clear hgrow2
        rw [rounds_succ]
        go_wp2_with (at_builtin; refine wpList_append_ints rfl (.tmp 23) (.tmp 25) 27 rfl (w.heap.size + 1) 3 Try.underlying27 Try.info3 v2 ([] ++ [i.a] ++ [i.b]) rfl hown2 _ c _ i.args rfl rfl (H.out.below (((Below.refl _ _).alloc (Nat.le_refl _) _).trans (hb3.mono (by omega)))) (by first | omega | (simp; done) | (simp; omega)) (by first | omega | (simp; done) | (simp; omega)) ?_; intro v3 w4 hown3 hgrow3)
        go_ret
        rw [HD2.out]
        exact ⟨_, rfl, ((Below.refl _ _).alloc (Nat.le_refl _) _).trans ((hb3.grown hgrow3 hz3 (by intro k hk; exact (hown2.lt k hk).1)).mono (by omega)), ownsRow_weaken hown3 (by omega)⟩
end Go.Proofs.Ytnbmmfkkjceehaa
