/- The walk of the statement RunCalcs. -/
import Derived.Test.YtnbmmfkkjceehaaR20
import Derived.Test.YtnbmmfkkjceehaaR19
namespace Go.Proofs.Ytnbmmfkkjceehaa
set_option linter.unusedSimpArgs false
set_option linter.unusedVariables false
open Go.RowKit

set_option maxHeartbeats 4000000 in
theorem runCalcs_any (w : World) (o a b : Int) : Calls Try.prog 3 #[.int .i64 o, .int .i64 a, .int .i64 b] w (RetBb true w) := by
  obtain ⟨r, hr⟩ : ∃ r, calcI o a b = r := ⟨_, rfl⟩
  have HR := Lib.hid hr
  clear hr
  obtain ⟨x, y⟩ := r
  go_enter Try.func3, Try.ntmps3
  go_wp2_with (first
    | (go_at_call 6; refine (calc_any o a b _).mono ?_; rintro e w1 ⟨rfl, rfl⟩; rw [HR.out])
    | (go_at_call 7; refine (refCalc_any o a b _).mono ?_; rintro e w1 ⟨rfl, rfl⟩; rw [HR.out])
    | (go_at_call 8; refine (awake_any _).mono ?_; rintro e w1 ⟨rfl, hb⟩; have HB := Lib.hid hb; clear hb))
  go_ret
  exact ⟨rfl, HB.out⟩
end Go.Proofs.Ytnbmmfkkjceehaa
