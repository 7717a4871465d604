/- Contracts: intarsiakit.Pick. -/
import Derived.Test.YtnbmmfkkjceehaaR24
import Derived.IntWalk
namespace Go.Proofs.Ytnbmmfkkjceehaa
set_option linter.unusedSimpArgs false
set_option linter.unusedVariables false
open Go.RowKit

def pickI (x n : Int) : Int := if n < 1 then 0 else x % n
theorem tmod_fix (x n : Int) (hn : 1 ≤ n) : (if x.tmod n < 0 then x.tmod n + n else x.tmod n) = x % n := by
  have h := Int.tmod_eq_emod (a := x) (b := n)
  have h1 := Int.emod_nonneg x (show n ≠ 0 by omega)
  have h2 := Int.emod_lt_of_pos x (show 0 < n by omega)
  split at h <;> split <;> omega
theorem tmod_range (x n : Int) (hn : 1 ≤ n) : - n < x.tmod n ∧ x.tmod n < n := by
  have h := Int.tmod_eq_emod (a := x) (b := n)
  have h1 := Int.emod_nonneg x (show n ≠ 0 by omega)
  have h2 := Int.emod_lt_of_pos x (show 0 < n by omega)
  split at h <;> omega
set_option maxHeartbeats 1000000 in
theorem pick_any (x n : Int) (w : World) (hx : -9223372036854775808 ≤ x) (hx2 : x ≤ 9223372036854775807) (hn2 : n ≤ 9223372036854775807) : Calls Try.prog 11 #[.int .i64 x, .int .i64 n] w (RetI (pickI x n) w) := by
  by_cases h : n < 1
  · go_enter Try.func11, Try.ntmps11
    go_wp2
    go_ret
    exact ⟨ret_int (by simp [pickI, h]), rfl⟩
  · have hr := tmod_range x n (by omega)
    have hf := tmod_fix x n (by omega)
    have hn0 : ¬ n = 0 := by omega
    have hn1 : ¬ n = -1 := by omega
    obtain ⟨y, hy⟩ : ∃ y, x.tmod n = y := ⟨_, rfl⟩
    rw [hy] at hr hf
    have hw1 : IntKind.i64.wrap y = y := IntWalk.i64_in _ (by omega)
    have hw2 : IntKind.i64.wrap (x.tmod n) = y := by rw [hy]; exact hw1
    have hp : pickI x n = if y < 0 then y + n else y := by unfold pickI; rw [if_neg h, hf]
    have Hp := Lib.hid hp
    clear hp hf
    by_cases h2 : y < 0
    · have hw3 : IntKind.i64.wrap (y + n) = y + n := IntWalk.i64_in _ (by omega)
      go_enter Try.func11, Try.ntmps11
      go_wp2
      go_ret
      exact ⟨ret_int (by rw [Hp.out, if_pos h2]), rfl⟩
    · go_enter Try.func11, Try.ntmps11
      go_wp2
      go_ret
      exact ⟨ret_int (by rw [Hp.out, if_neg (by omega)]), rfl⟩

end Go.Proofs.Ytnbmmfkkjceehaa
