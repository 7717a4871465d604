/- Contracts: intarsiakit.Pick, ir.Size. -/
import Derived.Test.YtddgdimjijefhaaA12
import Derived.IntWalk
namespace Go.Proofs.Ytddgdimjijefhaa
set_option linter.unusedSimpArgs false
set_option linter.unusedVariables false
open Go.RowKit

def pickI (x n : Int) : Int := if n < 1 then 0 else x % n
theorem tmod_fix (x n : Int) (hn : 1 ≤ n) : (if x.tmod n < 0 then x.tmod n + n else x.tmod n) = x % n := by
  have h := Int.tmod_eq_emod (a := x) (b := n)
  have h1 := Int.emod_nonneg x (show n ≠ 0 by omega)
  have h2 := Int.emod_lt_of_pos x (show 0 < n by omega)
  split at h <;> split <;> omega
theorem tmod_range (x n : Int) (hn : 1 ≤ n) : - n < x.tmod n ∧ x.tmod n < n := by
  have h := Int.tmod_eq_emod (a := x) (b := n)
  have h1 := Int.emod_nonneg x (show n ≠ 0 by omega)
  have h2 := Int.emod_lt_of_pos x (show 0 < n by omega)
  split at h <;> omega
set_option maxHeartbeats 1000000 in
theorem pick_any (x n : Int) (w : World) (hx : -9223372036854775808 ≤ x) (hx2 : x ≤ 9223372036854775807) (hn2 : n ≤ 9223372036854775807) : Calls Try.prog 33 #[.int .i64 x, .int .i64 n] w (RetI (pickI x n) w) := by
  by_cases h : n < 1
  · go_enter Try.func33, Try.ntmps33
    go_wp2
    go_ret
    exact ⟨ret_int (by simp [pickI, h]), rfl⟩
  · have hr := tmod_range x n (by omega)
    have hf := tmod_fix x n (by omega)
    have hn0 : ¬ n = 0 := by omega
    have hn1 : ¬ n = -1 := by omega
    obtain ⟨y, hy⟩ : ∃ y, x.tmod n = y := ⟨_, rfl⟩
    rw [hy] at hr hf
    have hw1 : IntKind.i64.wrap y = y := IntWalk.i64_in _ (by omega)
    have hw2 : IntKind.i64.wrap (x.tmod n) = y := by rw [hy]; exact hw1
    have hp : pickI x n = if y < 0 then y + n else y := by unfold pickI; rw [if_neg h, hf]
    have Hp := Lib.hid hp
    clear hp hf
    by_cases h2 : y < 0
    · have hw3 : IntKind.i64.wrap (y + n) = y + n := IntWalk.i64_in _ (by omega)
      go_enter Try.func33, Try.ntmps33
      go_wp2
      go_ret
      exact ⟨ret_int (by rw [Hp.out, if_pos h2]), rfl⟩
    · go_enter Try.func33, Try.ntmps33
      go_wp2
      go_ret
      exact ⟨ret_int (by rw [Hp.out, if_neg (by omega)]), rfl⟩

def sizeN (l : List BlkD) : Nat := (l.map fun x => x.ins.length + 1).sum
theorem sizeN_snoc (l : List BlkD) (x : BlkD) : sizeN (l ++ [x]) = sizeN l + (x.ins.length + 1) := by simp [sizeN]
theorem sizeN_le (l : List BlkD) (h : ∀ x ∈ l, x.ins.length ≤ 64) : sizeN l ≤ l.length * 65 := by
  induction l with
  | nil => simp [sizeN]
  | cons x l ih =>
    have := ih (fun y hy => h y (List.mem_cons_of_mem _ hy))
    have := h x (List.mem_cons_self ..)
    simp only [sizeN, List.map_cons, List.sum_cons, List.length_cons] at *
    omega
def sizeI (f : FnD) : Int := if longB f || !wholeB f then 0 else (sizeN f.blocks : Nat)
set_option maxHeartbeats 2000000 in
theorem size_any (w : World) (A : Option Addr) (c : Nat) (B : Option Addr) (d : Nat) (f : FnD) (hp : RI w A c f.params) (h : RBlk w B d f.blocks) : Calls Try.prog 40 #[fnV A c B d f] w (RetIb (sizeI f) w) := by
  have hpbig := hp.big
  have hbig := h.big
  have H := Lib.hid h
  have Hp := Lib.hid hp
  clear h hp
  simp only [fnV]
  go_enter Try.func40, Try.ntmps40
  cases hl : longB f
  · have Hl := Lib.hid (longB_blocks hl)
    have Hl2 := Lib.hid hl
    clear hl
    cases hw : wholeB f
    · have HR : Hid (sizeI f = 0) := Lib.hid (by unfold sizeI; rw [Hl2.out, hw]; rfl)
      have Hw := Lib.hid hw
      clear hw
      go_wp2_with (first
        | (go_at_call 73; refine (long_any _ A c B d f hpbig (H.out.below (by go_grown))).mono ?_; rintro e w1 ⟨rfl, hb⟩; rw [Hl2.out]; have HB1 : Hid (Below w.heap.size w w1) := Lib.hid (((Below.refl _ _).alloc (Nat.le_refl _) _).trans (hb.mono (by simp))); obtain ⟨hc1, hf1⟩ := bcell hb; simp only [World.size_alloc] at hc1 hf1; have hz1 := hb.size; simp only [World.size_alloc] at hz1; have hq1 : w.heap.size < w1.heap.size := hz1; clear hb)
        | (go_at_call 74; refine (whole_any _ A c B d f (Hp.out.below HB1.out) (H.out.below HB1.out)).mono ?_; rintro e w2 ⟨rfl, hb⟩; rw [Hw.out]; have HB2 : Hid (Below w.heap.size w w2) := Lib.hid (HB1.out.trans (hb.mono HB1.out.size)); clear hb))
      go_ret
      rw [HR.out]
      exact ⟨rfl, HB2.out⟩
    · have HR : Hid (sizeI f = (sizeN f.blocks : Nat)) := Lib.hid (by unfold sizeI; rw [Hl2.out, hw]; rfl)
      have Hw := Lib.hid hw
      clear hw
      go_wp2_with (first
        | (go_at_call 73; refine (long_any _ A c B d f hpbig (H.out.below (by go_grown))).mono ?_; rintro e w1 ⟨rfl, hb⟩; rw [Hl2.out]; have HB1 : Hid (Below w.heap.size w w1) := Lib.hid (((Below.refl _ _).alloc (Nat.le_refl _) _).trans (hb.mono (by simp))); obtain ⟨hc1, hf1⟩ := bcell hb; simp only [World.size_alloc] at hc1 hf1; have hz1 := hb.size; simp only [World.size_alloc] at hz1; have hq1 : w.heap.size < w1.heap.size := hz1; clear hb)
        | (go_at_call 74; refine (whole_any _ A c B d f (Hp.out.below HB1.out) (H.out.below HB1.out)).mono ?_; rintro e w2 ⟨rfl, hb⟩; rw [Hw.out]; have HB2 : Hid (Below w.heap.size w w2) := Lib.hid (HB1.out.trans (hb.mono HB1.out.size)); obtain ⟨hc2, hf2⟩ := bcell hb; have hz2 := hb.size; have hq2 : w.heap.size < w2.heap.size := Nat.lt_of_lt_of_le hq1 hz2; clear hb))
      clear hc1 hf1 hc2 hf2
      go_loopw [2, 15] (fun nv i wr => ∃ k : Nat, k ≤ f.blocks.length ∧ nv = .int .i64 (sizeN (f.blocks.take k)) ∧ i = .int .i64 k ∧ Below w.heap.size w wr) (fun _ i _ => f.blocks.length - (intOf i).toNat)
      case atStart => exact ⟨0, Nat.zero_le _, rfl, rfl, HB2.out⟩
      case round =>
        obtain ⟨k, hk, rfl, rfl, hb⟩ := hrel
        have HB := Lib.hid hb
        clear hb
        by_cases hlt : k < f.blocks.length
        · obtain ⟨b, o, A', c', hA, hbs, hat⟩ := (H.out.below HB.out).at k hlt
          subst hA
          have g0 := hat.c0
          have g1 := hat.c1
          have g2 := hat.c2
          have g3 := hat.c3
          have g4 := hat.c4
          have hibig := Hl.out.2.2.2 _ (List.getElem_mem hlt)
          clear hat
          have hsz : sizeN (f.blocks.take k) ≤ k * 65 := by
            have := sizeN_le (f.blocks.take k) (fun x hx => Hl.out.2.2.2 x (List.mem_of_mem_take hx))
            rw [List.length_take] at this
            have : min k f.blocks.length ≤ k := Nat.min_le_left _ _
            omega
          have hk200 := Hl.out.2.1
          go_wp2
          go_roundw
          case rel =>
            refine ⟨k + 1, by omega, ?_, by go_num, HB.out.alloc HB.out.size _⟩
            rw [take_snoc_eq _ k hlt, sizeN_snoc]
            congr 1
          case measure => simp [intOf]; omega
        · have hkl : k = f.blocks.length := by omega
          subst hkl
          go_wp2
          go_ret
          rw [HR.out, List.take_length]
          exact ⟨rfl, HB.out⟩
  · have HR : Hid (sizeI f = 0) := Lib.hid (by unfold sizeI; rw [hl]; rfl)
    have Hl2 := Lib.hid hl
    clear hl
    go_wp2_with (go_at_call 73; refine (long_any _ A c B d f hpbig (H.out.below (by go_grown))).mono ?_; rintro e w1 ⟨rfl, hb⟩; rw [Hl2.out]; have HB1 : Hid (Below w.heap.size w w1) := Lib.hid (((Below.refl _ _).alloc (Nat.le_refl _) _).trans (hb.mono (by simp))); clear hb)
    go_ret
    rw [HR.out]
    exact ⟨rfl, HB1.out⟩
end Go.Proofs.Ytddgdimjijefhaa
