/- Contract: ir.Right. -/
import Derived.Test.YtnbmmfkkjceehaaA11
import Derived.Deep.CutBlock
namespace Go.Proofs.Ytnbmmfkkjceehaa
set_option linter.unusedSimpArgs false
set_option linter.unusedVariables false
open Go.RowKit

theorem isInsB_args {i : InsD} (h : isInsB i = true) : i.args.length ≤ 8 := by
  unfold isInsB isInsS at h
  split at h
  · cases h
  · split at h
    · simp only [Bool.and_eq_true, decide_eq_true_eq] at h
      exact h.1.2
    · split at h
      · cases h
      · simp only [Bool.and_eq_true, beq_iff_eq] at h
        omega
theorem wholeB_args {f : FnD} (h : wholeB f = true) : ∀ x ∈ f.blocks, ∀ i ∈ x.ins, i.args.length ≤ 8 := by
  simp only [wholeB, okBlk, Bool.and_eq_true, List.all_eq_true, Bool.not_eq_true', List.any_eq_false] at h
  intro x hx i hi
  have := (h.2 x hx).2 i hi
  exact isInsB_args (by simpa using this)
theorem wholeB_params {f : FnD} (h : wholeB f = true) : inSet f.params := by
  simp only [wholeB, okP, Bool.and_eq_true, List.all_eq_true, decide_eq_true_eq, varB] at h
  intro x hx
  have := h.1.1 x hx
  omega
theorem longB_blocks {f : FnD} (h : longB f = false) : 0 < f.blocks.length ∧ f.blocks.length ≤ 200 ∧ f.params.length ≤ 8 ∧ ∀ x ∈ f.blocks, x.ins.length ≤ 64 := by
  simp only [longB, Bool.or_eq_false_iff, beq_eq_false_iff_ne, decide_eq_false_iff_not, List.any_eq_false, decide_eq_true_eq] at h
  obtain ⟨⟨⟨h1, h2⟩, h3⟩, h4⟩ := h
  refine ⟨by omega, by omega, by omega, fun x hx => ?_⟩
  have := h4 x hx
  omega
open Classical in
/-- What Right tells: the number of the first fault. -/
noncomputable def rightI (f : FnD) : Int :=
  if longB f then 3 else if !wholeB f then 2 else if ¬ (edgesOK f ∧ ∀ b, b < f.blocks.length → Reach f b) then 9 else if !valuedB f then 8 else 0
def ReachV (f : FnD) (a ok : Value) : Prop := (¬ edgesOK f ∧ a = .int .i64 0 ∧ ok = .bool false) ∨ (edgesOK f ∧ ∃ all : Nat, a = .int .i64 all ∧ ok = .bool true ∧ all ≤ f.blocks.length ∧ (all = f.blocks.length ↔ ∀ b, b < f.blocks.length → Reach f b))
theorem RetReach.open {f : FnD} {w w' : World} {e : Ending} (h : RetReach f w e w') : Below w.heap.size w w' ∧ ∃ a ok, e = .returned (.tuple #[a, ok]) ∧ ReachV f a ok := by
  obtain ⟨hb, h⟩ := h
  refine ⟨hb, ?_⟩
  rcases h with ⟨h1, rfl⟩ | ⟨h1, all, rfl, h2, h3⟩
  · exact ⟨_, _, rfl, .inl ⟨h1, rfl, rfl⟩⟩
  · exact ⟨_, _, rfl, .inr ⟨h1, all, rfl, rfl, h2, h3⟩⟩
set_option maxHeartbeats 4000000 in
theorem right_any (w : World) (A : Option Addr) (c : Nat) (B : Option Addr) (d : Nat) (f : FnD) (hp : RI w A c f.params) (h : RBlk w B d f.blocks) : Calls Try.prog 26 #[fnV A c B d f] w (RetIb (rightI f) w) := by
  have hpbig := hp.big
  have hbig := h.big
  have H := Lib.hid h
  have Hp := Lib.hid hp
  clear h hp
  simp only [fnV]
  go_enter Try.func26, Try.ntmps26
  cases hl : longB f
  · have Hl := Lib.hid (longB_blocks hl)
    have Hl2 := Lib.hid hl
    clear hl
    cases hw : wholeB f
    · have HR : Hid (rightI f = 2) := Lib.hid (by unfold rightI; rw [Hl2.out, hw]; rfl)
      have Hw := Lib.hid hw
      clear hw
      go_wp2_with (first
        | (go_at_call 34; refine (long_any _ A c B d f hpbig (H.out.below (by go_grown))).mono ?_; rintro e w1 ⟨rfl, hb⟩; rw [Hl2.out]; have HB1 : Hid (Below w.heap.size w w1) := Lib.hid (((Below.refl _ _).alloc (Nat.le_refl _) _).trans (hb.mono (by simp))); obtain ⟨hc1, hf1⟩ := bcell hb; simp only [World.size_alloc] at hc1 hf1; have hz1 := hb.size; simp only [World.size_alloc] at hz1; have hq1 : w.heap.size < w1.heap.size := hz1; clear hb)
        | (go_at_call 35; refine (whole_any _ A c B d f (Hp.out.below HB1.out) (H.out.below HB1.out)).mono ?_; rintro e w2 ⟨rfl, hb⟩; rw [Hw.out]; have HB2 : Hid (Below w.heap.size w w2) := Lib.hid (HB1.out.trans (hb.mono HB1.out.size)); obtain ⟨hc2, hf2⟩ := bcell hb; have hz2 := hb.size; have hq2 : w.heap.size < w2.heap.size := Nat.lt_of_lt_of_le hq1 hz2; clear hb))
      go_ret
      rw [HR.out]
      exact ⟨rfl, HB2.out⟩
    · have Hp0 := Lib.hid Hl.out.1
      have Hargs := Lib.hid (wholeB_args hw)
      have Hpin := Lib.hid (wholeB_params hw)
      have Hw := Lib.hid hw
      clear hw
      go_upto_region 5 with (first
        | (go_at_call 34; refine (long_any _ A c B d f hpbig (H.out.below (by go_grown))).mono ?_; rintro e w1 ⟨rfl, hb⟩; rw [Hl2.out]; have HB1 : Hid (Below w.heap.size w w1) := Lib.hid (((Below.refl _ _).alloc (Nat.le_refl _) _).trans (hb.mono (by simp))); obtain ⟨hc1, hf1⟩ := bcell hb; simp only [World.size_alloc] at hc1 hf1; have hz1 := hb.size; simp only [World.size_alloc] at hz1; have hq1 : w.heap.size < w1.heap.size := hz1; clear hb)
        | (go_at_call 35; refine (whole_any _ A c B d f (Hp.out.below HB1.out) (H.out.below HB1.out)).mono ?_; rintro e w2 ⟨rfl, hb⟩; rw [Hw.out]; have HB2 : Hid (Below w.heap.size w w2) := Lib.hid (HB1.out.trans (hb.mono HB1.out.size)); obtain ⟨hc2, hf2⟩ := bcell hb; have hz2 := hb.size; have hq2 : w.heap.size < w2.heap.size := Nat.lt_of_lt_of_le hq1 hz2; clear hb))
      go_cut [3, 4] from 10 to 14 (fun a ok wc => Below w.heap.size w wc ∧ (∀ b o, b < w2.heap.size → wc.cell? ⟨b, o, none⟩ = w2.cell? ⟨b, o, none⟩) ∧ w2.heap.size ≤ wc.heap.size ∧ Hid (ReachV f a ok))
      case first =>
        go_wp2_with (go_at_call 36; refine (reach_any _ A c B d f (H.out.below HB2.out) Hp0.out Hl.out.2.1).mono ?_; rintro e w3 hret; obtain ⟨hb, av, okv, rfl, hrv⟩ := hret.open; have HRV := Lib.hid hrv; clear hret hrv; have HB3 : Hid (Below w.heap.size w w3) := Lib.hid (HB2.out.trans (hb.mono HB2.out.size)); have HC3 := Lib.hid (bcell hb).1; have hz3 := hb.size; clear hb)
        go_meet
        case rel => exact ⟨HB3.out, HC3.out, hz3, HRV⟩
      case rest =>
        obtain ⟨hb, hcc, hzc, HRV⟩ := hcut
        have HBc := Lib.hid hb
        clear hb
        rcases HRV.out with ⟨hne, rfl, rfl⟩ | ⟨hE, all, rfl, rfl, hal, hiff⟩
        · have HR : Hid (rightI f = 9) := Lib.hid (by unfold rightI; rw [Hl2.out, Hw.out]; simp [hne])
          clear hne HRV
          go_wp2_with fail
          go_ret
          rw [HR.out]
          exact ⟨rfl, HBc.out⟩
        · have HE := Lib.hid hE
          have HF := Lib.hid hiff
          clear hE hiff HRV
          by_cases hlt : all < f.blocks.length
          · have HR : Hid (rightI f = 9) := Lib.hid (by
              have hnr : ¬ (edgesOK f ∧ ∀ b, b < f.blocks.length → Reach f b) := fun h => by have := HF.out.2 h.2; omega
              unfold rightI; rw [Hl2.out, Hw.out, if_pos hnr]; rfl)
            go_wp2_with fail
            go_ret
            rw [HR.out]
            exact ⟨rfl, HBc.out⟩
          · have hall : all = f.blocks.length := by omega
            subst hall
            have HR : Hid (rightI f = if !valuedB f then 8 else 0) := Lib.hid (by
              have hr : ¬ ¬ (edgesOK f ∧ ∀ b, b < f.blocks.length → Reach f b) := fun h => h ⟨HE.out, HF.out.1 rfl⟩
              unfold rightI; rw [Hl2.out, Hw.out, if_neg hr]; rfl)
            cases hv : valuedB f
            all_goals
              have Hv := Lib.hid hv
              clear hv
              go_wp2_with (go_at_call 37; refine (valued_any _ A c B d f (Hp.out.below HBc.out) Hpin.out (H.out.below HBc.out) Hp0.out Hl.out.2.1 HE.out Hargs.out).mono ?_; rintro e w4 ⟨rfl, hb⟩; rw [Hv.out]; have HB4 : Hid (Below w.heap.size w w4) := Lib.hid (HBc.out.trans (hb.mono HBc.out.size)); clear hb)
              go_ret
              rw [HR.out, Hv.out]
              exact ⟨rfl, HB4.out⟩
  · have HR : Hid (rightI f = 3) := Lib.hid (by unfold rightI; rw [hl]; rfl)
    have Hl2 := Lib.hid hl
    clear hl
    go_wp2_with (go_at_call 34; refine (long_any _ A c B d f hpbig (H.out.below (by go_grown))).mono ?_; rintro e w1 ⟨rfl, hb⟩; rw [Hl2.out]; have HB1 : Hid (Below w.heap.size w w1) := Lib.hid (((Below.refl _ _).alloc (Nat.le_refl _) _).trans (hb.mono (by simp))); clear hb)
    go_ret
    rw [HR.out]
    exact ⟨rfl, HB1.out⟩
end Go.Proofs.Ytnbmmfkkjceehaa
