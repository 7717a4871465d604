/- Contracts: ir.full, meet. -/
import Derived.Test.YtnbmmfkkjceehaaA4
import Derived.Test.YtnbmmfkkjceehaaD1
namespace Go.Proofs.Ytnbmmfkkjceehaa
set_option linter.unusedSimpArgs false
set_option linter.unusedVariables false
open Go.RowKit

theorem Try.setZero : (Try.prog.info? 106).map (·.zero) = some (some (.agg (setC fun _ => false))) := by kernel_rfl
theorem Try.setSize : (Try.prog.info? 106).map (·.size) = some 201 := by kernel_rfl
theorem Try.setUnder : Try.prog.underlying 106 = some (.array 201 4) := by kernel_rfl

set_option maxRecDepth 100000 in
set_option maxHeartbeats 1000000 in
theorem full_any (w : World) : Calls Try.prog 53 #[] w (RetSet (fun _ => true) w) := by
  go_enter Try.func53, Try.ntmps53
  go_wp2_with (with_reducible refine wpList_alloc_set rfl 106 rfl Try.setZero ?_)
  go_loopw [2] (fun i wr => ∃ k : Nat, k ≤ 201 ∧ i = .int .i64 k ∧ Below w.heap.size w wr ∧ SetAt wr w.heap.size 106 (fun j => decide (j < k))) (fun i _ => 201 - (intOf i).toNat)
  case atStart => exact ⟨0, by omega, rfl, (Below.refl _ _).alloc (Nat.le_refl _) _, SetAt.new _ _ _⟩
  case round =>
    obtain ⟨k, hk, rfl, hb, hs⟩ := hrel
    have Hs := Lib.hid hs
    have HB := Lib.hid hb
    clear hs hb
    by_cases hlt : k < 201
    · have hc := Hs.out.cell k hlt
      have hf := Hs.out.free k
      go_wp2
      go_roundw
      case rel =>
        refine ⟨k + 1, by omega, by go_num, HB.out.setCell (Nat.le_refl _) _, ?_⟩
        have := Hs.out.stored k hlt true
        refine Eq.trans this ?_
        rw [setC_congr]
        intro j hj
        unfold updF
        by_cases e : j = k
        · subst e; simp
        · simp [e]; omega
      case measure => simp [intOf]; omega
    · have e : k = 201 := by omega
      subst e
      go_wp2_with (first
        | (with_reducible refine wpList_load_set rfl 106 _ rfl w.heap.size _ rfl _ Hs.out _ Try.setUnder Try.setSize ?_)
        | (with_reducible refine wpList_store_set rfl 106 _ _ rfl w.heap.size _ _ rfl rfl _ Hs.out Try.setSize ?_))
      refine bodyPost_ret (v := .agg (setC fun _ => true)) ?_ rfl ⟨rfl, below_setRow HB.out _ _ (Nat.le_refl _)⟩
      have h1 := Hs.out.row (fun j => decide (j < 201))
      have h2 : SetAt (wr.setRow w.heap.size (setC fun j => decide (j < 201))) w.heap.size 106 (fun _ => true) := by
        refine Eq.trans h1 ?_
        rw [setC_congr]; intro k hk; simp [hk]
      exact results_cell_row rfl _ _ w.heap.size 106 _ (0, 0) _ rfl h2 Try.setUnder rfl (by rw [setC_size]; exact Try.setSize)

set_option maxRecDepth 100000 in
set_option maxHeartbeats 2000000 in
theorem meet_any (w : World) (s t : SetF) : Calls Try.prog 54 #[.agg (setC s), .agg (setC t)] w (RetSet (fun k => s k && t k) w) := by
  go_enter Try.func54, Try.ntmps54
  go_wp2_with (with_reducible refine wpList_alloc_set rfl 106 rfl Try.setZero ?_)
  go_loopw [6] (fun i wr => ∃ k : Nat, k ≤ 201 ∧ i = .int .i64 k ∧ Below w.heap.size w wr ∧ SetAt wr w.heap.size 106 (fun j => if j < k then s j && t j else s j) ∧ SetAt wr (w.heap.size + 1) 106 t ∧ SetAt wr (w.heap.size + 1 + 1) 106 (fun _ => false)) (fun i _ => 201 - (intOf i).toNat)
  case atStart =>
    refine ⟨0, by omega, rfl, by go_grown, ?_, ?_, ?_⟩
    · simpa using ((SetAt.new w 106 s).alloc _).alloc _
    · simpa using (SetAt.new (w.alloc _) 106 t).alloc _
    · simpa using SetAt.new ((w.alloc _).alloc _) 106 (fun _ => false)
  case round =>
    obtain ⟨k, hk, rfl, hb, hs, ht, hz⟩ := hrel
    have Hs := Lib.hid hs
    have Ht := Lib.hid ht
    have Hz := Lib.hid hz
    have HB := Lib.hid hb
    clear hs ht hb hz
    by_cases hlt : k < 201
    · have hc := Hs.out.cell k hlt
      have hf := Hs.out.free k
      have hct := Ht.out.cell k hlt
      simp only [Nat.lt_irrefl, if_false] at hc
      cases hsk : s k
      all_goals
        rw [hsk] at hc
        have Hsk := Lib.hid hsk
        clear hsk
        go_wp2
        go_roundw
        case rel =>
          refine ⟨k + 1, by omega, by go_num, HB.out.setCell (Nat.le_refl _) _, ?_, Ht.out.other _ _ (by dsimp only; omega), Hz.out.other _ _ (by dsimp only; omega)⟩
          refine Eq.trans (Hs.out.stored k hlt _) ?_
          rw [setC_congr]
          intro j hj
          unfold updF
          by_cases e : j = k
          · subst e; simp [Hsk.out]
          · by_cases e2 : j < k
            · simp [e, e2, show j < k + 1 by omega]
            · simp [e, e2, show ¬ j < k + 1 by omega]
        case measure => simp [intOf]; omega
    · have e : k = 201 := by omega
      subst e
      go_wp2_with (first
        | (with_reducible refine wpList_load_set rfl 106 _ rfl w.heap.size _ rfl _ Hs.out _ Try.setUnder Try.setSize ?_)
        | (with_reducible refine wpList_store_set rfl 106 _ _ rfl (w.heap.size + 1 + 1) _ _ rfl rfl _ Hz.out Try.setSize ?_))
      have hq : setC (fun j => if j < 201 then s j && t j else s j) = setC (fun k => s k && t k) := setC_congr (fun k hk => by simp [hk])
      refine bodyPost_ret (v := .agg (setC fun k => s k && t k)) ?_ rfl ⟨rfl, below_setRow HB.out _ _ (by omega)⟩
      have h1 := Hz.out.row (fun j => if j < 201 then s j && t j else s j)
      rw [← hq]
      exact results_cell_row rfl _ _ (w.heap.size + 1 + 1) 106 _ (0, 0) _ rfl h1 Try.setUnder rfl (by rw [setC_size]; exact Try.setSize)

theorem has1_any (w : World) (k : Nat) (hk : k < 201) (pb sb : Nat) (s : SetF) (hp : w.cell? ⟨pb, 0, none⟩ = some (.pointer (some ⟨sb, 0, none⟩))) (hs : SetIn w sb 0 s) :
    Calls Try.prog 62 #[.int .i64 k, .pointer (some ⟨pb, 0, none⟩)] w (RetB (!s k) w) := by
  have hc := hs.cell k hk
  simp only [Nat.zero_add] at hc
  clear hs
  go_enter Try.func62, Try.ntmps62
  go_wp2
  go_ret
  exact ⟨rfl, rfl⟩

def inSet (xs : List Int) : Prop := ∀ x ∈ xs, 0 ≤ x ∧ x ≤ 200
def hasB (s : SetF) (xs : List Int) : Bool := !xs.any (fun x => !s x.toNat)
theorem pred_has (w : World) (pb sb : Nat) (s : SetF) (xs : List Int) (hp : w.cell? ⟨pb, 0, none⟩ = some (.pointer (some ⟨sb, 0, none⟩))) (hs : SetIn w sb 0 s) (hx : inSet xs) :
    PredI 62 #[.pointer (some ⟨pb, 0, none⟩)] w xs (fun x => !s x.toNat) :=
  ⟨fun _ _ => by kernel_rfl, fun x hxx => by
    obtain ⟨h0, h1⟩ := hx x hxx
    obtain ⟨k, rfl⟩ := Int.eq_ofNat_of_zero_le h0
    rw [Int.toNat_natCast]
    exact has1_any _ k (by omega) pb sb s hp hs⟩
theorem has_any (w : World) (A : Option Addr) (c : Nat) (xs : List Int) (sb : Nat) (s : SetF) (h : RI w A c xs) (hx : inSet xs) (hs : SetIn w sb 0 s) :
    Calls Try.prog 61 #[.pointer (some ⟨sb, 0, none⟩), .slice A xs.length c] w (RetBb (hasB s xs) w) := by
  have H := Lib.hid h
  have Hs := Lib.hid hs
  have Hx := Lib.hid hx
  clear h hs hx
  go_enter Try.func61, Try.ntmps61
  go_wp2_with (go_at_call 48; refine (containsFunc_any _ A _ c xs _ _ _ rfl (H.out.below (by go_grown)) (pred_has _ w.heap.size sb s xs (by simp) (Hs.out.alloc _) Hx.out)).mono ?_; rintro e w' ⟨rfl, rfl⟩)
  go_ret
  exact ⟨rfl, by go_grown⟩
end Go.Proofs.Ytnbmmfkkjceehaa
