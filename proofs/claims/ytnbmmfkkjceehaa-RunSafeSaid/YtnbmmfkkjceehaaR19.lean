/- Contracts: Calc and bit of the reference. -/
import Derived.Test.YtnbmmfkkjceehaaR2
namespace Go.Proofs.Ytnbmmfkkjceehaa
set_option linter.unusedSimpArgs false
set_option linter.unusedVariables false
open Go.RowKit

theorem bit_any (b : Bool) (w : World) : Calls Try.prog 24 #[.bool b] w (RetI (truthI b) w) := by
  cases b
  all_goals
    go_enter Try.func24, Try.ntmps24
    go_wp2
    go_ret
    exact ⟨rfl, rfl⟩
set_option maxHeartbeats 4000000 in
theorem refCalc_any (o a b : Int) (w : World) : Calls Try.prog 7 #[.int .i64 o, .int .i64 a, .int .i64 b] w (RetCalc (calcI o a b) w) := by
  have hT : ∀ (c : Bool) (w : World), Calls Try.prog 24 #[.bool c] w (RetI (truthI c) w) := bit_any
  have HT := Lib.hid hT
  clear hT
  by_cases h2 : o = 2
  · subst h2
    go_enter Try.func7, Try.ntmps7
    go_wp2_with (go_at_call 24; refine (HT.out _ _).mono ?_; rintro e w' ⟨rfl, rfl⟩)
    go_ret2
    exact ⟨rfl, rfl⟩
  by_cases h3 : o = 3
  · subst h3
    go_enter Try.func7, Try.ntmps7
    go_wp2_with (go_at_call 24; refine (HT.out _ _).mono ?_; rintro e w' ⟨rfl, rfl⟩)
    go_ret2
    exact ⟨rfl, rfl⟩
  by_cases h4 : o = 4
  · subst h4
    go_enter Try.func7, Try.ntmps7
    go_wp2_with (go_at_call 24; refine (HT.out _ _).mono ?_; rintro e w' ⟨rfl, rfl⟩)
    go_ret2
    exact ⟨rfl, rfl⟩
  by_cases h6 : o = 6
  · subst h6
    go_enter Try.func7, Try.ntmps7
    go_wp2_with (go_at_call 24; refine (HT.out _ _).mono ?_; rintro e w' ⟨rfl, rfl⟩)
    go_ret2
    exact ⟨rfl, rfl⟩
  by_cases h7 : o = 7
  · subst h7
    go_enter Try.func7, Try.ntmps7
    go_wp2_with (go_at_call 24; refine (HT.out _ _).mono ?_; rintro e w' ⟨rfl, rfl⟩)
    go_ret2
    exact ⟨rfl, rfl⟩
  by_cases h8 : o = 8
  · subst h8
    go_enter Try.func7, Try.ntmps7
    go_wp2_with (go_at_call 24; refine (HT.out _ _).mono ?_; rintro e w' ⟨rfl, rfl⟩)
    go_ret2
    exact ⟨rfl, rfl⟩
  by_cases h9 : o = 9
  · subst h9
    go_enter Try.func7, Try.ntmps7
    go_wp2_with (go_at_call 24; refine (HT.out _ _).mono ?_; rintro e w' ⟨rfl, rfl⟩)
    go_ret2
    exact ⟨rfl, rfl⟩
  by_cases h10 : o = 10
  · subst h10
    go_enter Try.func7, Try.ntmps7
    go_wp2_with (go_at_call 24; refine (HT.out _ _).mono ?_; rintro e w' ⟨rfl, rfl⟩)
    go_ret2
    exact ⟨rfl, rfl⟩
  have E : calcI o a b = if o = 5 ∧ b ≠ 0 then (wrap64 (a.tdiv b), true) else (0, false) := by simp only [calcI, h2, h3, h4, h6, h7, h8, h9, h10, if_false]
  have HE := Lib.hid E
  clear E
  by_cases h5 : o = 5
  · by_cases hb : b = 0
    · have HR : Hid (calcI o a b = (0, false)) := Lib.hid (by rw [HE.out]; simp [hb])
      subst h5 hb
      go_enter Try.func7, Try.ntmps7
      go_wp2
      go_ret2
      rw [HR.out]
      exact ⟨rfl, rfl⟩
    · have HR : Hid (calcI o a b = (wrap64 (a.tdiv b), true)) := Lib.hid (by rw [HE.out]; simp [h5, hb])
      subst h5
      by_cases hm : b = -1
      · have HR2 : Hid (calcI 5 a b = (wrap64 (-a), true)) := Lib.hid (by rw [HR.out, hm]; simp [Int.tdiv_neg])
        subst hm
        go_enter Try.func7, Try.ntmps7
        go_wp2
        go_ret2
        rw [HR2.out]
        exact ⟨by first | rfl | (simp [wrap64, IntKind.wrap]), rfl⟩
      · go_enter Try.func7, Try.ntmps7
        go_wp2
        go_ret2
        rw [HR.out]
        exact ⟨rfl, rfl⟩
  · have HR : Hid (calcI o a b = (0, false)) := Lib.hid (by rw [HE.out]; simp [h5])
    go_enter Try.func7, Try.ntmps7
    go_wp2
    go_ret2
    rw [HR.out]
    exact ⟨rfl, rfl⟩
end Go.Proofs.Ytnbmmfkkjceehaa
