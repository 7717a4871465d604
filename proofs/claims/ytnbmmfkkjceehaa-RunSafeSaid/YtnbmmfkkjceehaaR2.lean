/- Contracts: run.Calc, run.truth. -/
import Derived.Test.YtnbmmfkkjceehaaA1
import Derived.Test.YtnbmmfkkjceehaaR1
import Derived.IntWalk
namespace Go.Proofs.Ytnbmmfkkjceehaa
set_option linter.unusedSimpArgs false
set_option linter.unusedVariables false
open Go.RowKit

def truthI (b : Bool) : Int := if b then 1 else 0
theorem truth_any (b : Bool) (w : World) : Calls Try.prog 23 #[.bool b] w (RetI (truthI b) w) := by
  cases b
  all_goals
    go_enter Try.func23, Try.ntmps23
    go_wp2
    go_ret
    exact ⟨rfl, rfl⟩
/-- What an Op makes of two values. -/
def calcI (o a b : Int) : Int × Bool :=
  if o = 2 then (wrap64 (a + b), true)
  else if o = 3 then (wrap64 (a - b), true)
  else if o = 4 then (wrap64 (a * b), true)
  else if o = 6 then (Go.bits .and .i64 a b, true)
  else if o = 7 then (Go.bits .or .i64 a b, true)
  else if o = 8 then (Go.bits .xor .i64 a b, true)
  else if o = 9 then (truthI (decide (a < b)), true)
  else if o = 10 then (truthI (a == b), true)
  else if o = 5 ∧ b ≠ 0 then (wrap64 (a.tdiv b), true)
  else (0, false)
def RetCalc (r : Int × Bool) (w : World) (e : Ending) (w' : World) : Prop := e = .returned (.tuple #[.int .i64 r.1, .bool r.2]) ∧ w = w'
set_option maxHeartbeats 2000000 in
theorem calc_any (o a b : Int) (w : World) : Calls Try.prog 6 #[.int .i64 o, .int .i64 a, .int .i64 b] w (RetCalc (calcI o a b) w) := by
  have hT : ∀ (c : Bool) (w : World), Calls Try.prog 23 #[.bool c] w (RetI (truthI c) w) := truth_any
  have HT := Lib.hid hT
  clear hT
  by_cases h2 : o = 2
  · subst h2
    go_enter Try.func6, Try.ntmps6
    go_wp2_with (go_at_call 23; refine (HT.out _ _).mono ?_; rintro e w' ⟨rfl, rfl⟩)
    go_ret2
    exact ⟨rfl, rfl⟩
  by_cases h3 : o = 3
  · subst h3
    go_enter Try.func6, Try.ntmps6
    go_wp2_with (go_at_call 23; refine (HT.out _ _).mono ?_; rintro e w' ⟨rfl, rfl⟩)
    go_ret2
    exact ⟨rfl, rfl⟩
  by_cases h4 : o = 4
  · subst h4
    go_enter Try.func6, Try.ntmps6
    go_wp2_with (go_at_call 23; refine (HT.out _ _).mono ?_; rintro e w' ⟨rfl, rfl⟩)
    go_ret2
    exact ⟨rfl, rfl⟩
  by_cases h6 : o = 6
  · subst h6
    go_enter Try.func6, Try.ntmps6
    go_wp2_with (go_at_call 23; refine (HT.out _ _).mono ?_; rintro e w' ⟨rfl, rfl⟩)
    go_ret2
    exact ⟨rfl, rfl⟩
  by_cases h7 : o = 7
  · subst h7
    go_enter Try.func6, Try.ntmps6
    go_wp2_with (go_at_call 23; refine (HT.out _ _).mono ?_; rintro e w' ⟨rfl, rfl⟩)
    go_ret2
    exact ⟨rfl, rfl⟩
  by_cases h8 : o = 8
  · subst h8
    go_enter Try.func6, Try.ntmps6
    go_wp2_with (go_at_call 23; refine (HT.out _ _).mono ?_; rintro e w' ⟨rfl, rfl⟩)
    go_ret2
    exact ⟨rfl, rfl⟩
  by_cases h9 : o = 9
  · subst h9
    go_enter Try.func6, Try.ntmps6
    go_wp2_with (go_at_call 23; refine (HT.out _ _).mono ?_; rintro e w' ⟨rfl, rfl⟩)
    go_ret2
    exact ⟨rfl, rfl⟩
  by_cases h10 : o = 10
  · subst h10
    go_enter Try.func6, Try.ntmps6
    go_wp2_with (go_at_call 23; refine (HT.out _ _).mono ?_; rintro e w' ⟨rfl, rfl⟩)
    go_ret2
    exact ⟨rfl, rfl⟩
  have E : calcI o a b = if o = 5 ∧ b ≠ 0 then (wrap64 (a.tdiv b), true) else (0, false) := by simp only [calcI, h2, h3, h4, h6, h7, h8, h9, h10, if_false]
  have HE := Lib.hid E
  clear E
  by_cases h5 : o = 5
  · by_cases hb : b = 0
    · have HR : Hid (calcI o a b = (0, false)) := Lib.hid (by rw [HE.out]; simp [hb])
      subst h5 hb
      go_enter Try.func6, Try.ntmps6
      go_wp2
      go_ret2
      rw [HR.out]
      exact ⟨rfl, rfl⟩
    · have HR : Hid (calcI o a b = (wrap64 (a.tdiv b), true)) := Lib.hid (by rw [HE.out]; simp [h5, hb])
      subst h5
      go_enter Try.func6, Try.ntmps6
      go_wp2
      go_ret2
      rw [HR.out]
      exact ⟨rfl, rfl⟩
  · have HR : Hid (calcI o a b = (0, false)) := Lib.hid (by rw [HE.out]; simp [h5])
    go_enter Try.func6, Try.ntmps6
    go_wp2
    go_ret2
    rw [HR.out]
    exact ⟨rfl, rfl⟩
end Go.Proofs.Ytnbmmfkkjceehaa
