/- RunSafe: whatever the function, arguments, memory, answers, fuel, the statement answers true: a run of a right function has, at each step, a value of each variable that is read or needed there, goes on by edges, changes a value only where its variable is defined, and stays where it has ended; its arguments stay as they were. No condition. -/
import Derived.Test.YtnbmmfkkjceehaaRows
import Derived.Test.YtnbmmfkkjceehaaR29
import Derived.Test.YtnbmmfkkjceehaaD9
import Derived.ProofKit
import Derived.Below
import Derived.ChangeOld
namespace Go.Proofs.Ytnbmmfkkjceehaa
open Go.ChangeShapes Go.WideShapes Go.ChangeAt Go.RowKit
set_option linter.unusedVariables false
set_option linter.unnecessarySimpa false
set_option linter.unusedSimpArgs false

theorem runSafe_own : ownKnob Try.prog.godebug = none := by kernel_rfl
theorem runSafe_laidOut : laidOutB Try.prog = true := by kernel_rfl
set_option maxRecDepth 100000 in
theorem runSafe_lifted (os : Os) (started : os.Started) (H : Type) (enc : TypeId × Value → H) :
    ReturnsInHanded {} Try.checked os 5 .any (Rows.runSafeSpec.pre6 enc Try.prog Try.f5 Rows.runSafeRow.domain false) (Rows.runSafeSpec.post enc Try.prog Try.f5 false true false false) := by
  refine returnsInHanded_of_change_sized (C := Try.checked) runSafe_own started (by kernel_rfl) Try.func5
    (ChangeSpec.witness6 (enc := enc) (C := Try.checked) false ⟨#[], #[.agg #[.slice none 0 0, .slice none 0 0], .slice none 0 0, .slice none 0 0, .slice none 0 0, .int .i64 0], []⟩ 8 (by kernel_rfl) (by kernel_rfl) (by kernel_rfl) (by kernel_rfl)) ?_
  intro W base args ds gs before hval0 hW hcnd hsz0 _
  have hsz : (DataW.weightsEach Try.prog (Try.f5.params.toList ++ Rows.runSafeSpec.plain.varTypes Try.prog) (ds ++ gs)).all (· ≤ reachBytes) = true := hsz0
  have hval : ∀ (j : Nat) t v, Try.f5.params[j]? = some t → args[j]? = some v → Value.okWide Try.prog W .any base t v := hval0
  have hW' := hW
  obtain ⟨p, q, hA0, hV, rfl, hfz, hnd⟩ := hW
  have hA : DataW.TrodAll enc Try.prog W 0 (fun _ => true) true Try.f5.params.toList args.toList ds p := hA0
  rw [Try.params5] at hA hval hsz
  obtain ⟨v0, vs0, d0, ds0, p0, q0, ha0, rfl, rfl, k0, hr0⟩ := trodAll_cons hA
  obtain ⟨v1, vs1, d1, ds1, p1, q1, rfl, rfl, rfl, k1, hr1⟩ := trodAll_cons hr0
  obtain ⟨v2, vs2, d2, ds2, p2, q2, rfl, rfl, rfl, k2, hr2⟩ := trodAll_cons hr1
  obtain ⟨v3, vs3, d3, ds3, p3, q3, rfl, rfl, rfl, k3, hr3⟩ := trodAll_cons hr2
  obtain ⟨v4, vs4, d4, ds4, p4, q4, rfl, rfl, rfl, k4, hr4⟩ := trodAll_cons hr3
  obtain ⟨rfl, rfl, rfl⟩ := trodAll_nil hr4
  obtain rfl : args = #[v0, v1, v2, v3, v4] := Array.toList_inj.1 (by simpa using ha0)
  obtain ⟨rfl, rfl⟩ := trodVars_none hV
  have lt0 : ∀ x ∈ p0, x.block < W.heap.size := by obtain ⟨m, hm⟩ := k0; exact DataW.trod_lt m _ _ _ hm
  have lt1 : ∀ x ∈ p1, x.block < W.heap.size := by obtain ⟨m, hm⟩ := k1; exact DataW.trod_lt m _ _ _ hm
  have lt2 : ∀ x ∈ p2, x.block < W.heap.size := by obtain ⟨m, hm⟩ := k2; exact DataW.trod_lt m _ _ _ hm
  have lt3 : ∀ x ∈ p3, x.block < W.heap.size := by obtain ⟨m, hm⟩ := k3; exact DataW.trod_lt m _ _ _ hm
  have lt4 : ∀ x ∈ p4, x.block < W.heap.size := by obtain ⟨m, hm⟩ := k4; exact DataW.trod_lt m _ _ _ hm
  have hz : ∀ n ∈ DataW.weightsEach Try.prog [30, 27, 27, 27, 3] [d0, d1, d2, d3, d4], n ≤ reachBytes := by
    intro n hn
    have := List.all_eq_true.1 hsz n hn
    simpa using this
  obtain ⟨cs0, rfl, hc0⟩ := okWide_struct Try.underlying30 (hval 0 30 v0 rfl rfl)
  obtain ⟨a1, len1, cap1, rfl⟩ := okWide_slice Try.underlying27 (hval 1 27 v1 rfl rfl)
  obtain ⟨a2, len2, cap2, rfl⟩ := okWide_slice Try.underlying27 (hval 2 27 v2 rfl rfl)
  obtain ⟨a3, len3, cap3, rfl⟩ := okWide_slice Try.underlying27 (hval 3 27 v3 rfl rfl)
  obtain ⟨n4, rfl⟩ := okWide_int Try.underlying3 (hval 4 3 v4 rfl rfl)
  have hk0 := k0
  obtain ⟨fu0, hf0⟩ := hk0
  have hk1 := k1
  obtain ⟨fu1, hf1⟩ := hk1
  have hk2 := k2
  obtain ⟨fu2, hf2⟩ := hk2
  have hk3 := k3
  obtain ⟨fu3, hf3⟩ := hk3
  have hk4 := k4
  obtain ⟨fu4, hf4⟩ := hk4
  obtain ⟨A0, c0, B0, e0, f0, g0, hp0, hb0, hw0⟩ := fn_of hf0 (fun n hn => hz n (DataW.weights_mem_each (j := 0) rfl rfl n hn))
  simp only [Value.cells, List.cons.injEq, and_true, Value.slice.injEq] at g0
  obtain rfl : cs0 = #[.slice A0 f0.params.length c0, .slice B0 f0.blocks.length e0] := by
    apply Array.toList_inj.1
    simpa using g0
  obtain ⟨Y1, cy1, xs1, g1, hx1, hxw1, _⟩ := ri_of hf1 (fun n hn => hz n (DataW.weights_mem_each (j := 1) rfl rfl n hn))
  simp only [Value.cells, List.cons.injEq, and_true, Value.slice.injEq] at g1
  obtain ⟨rfl, rfl, rfl⟩ := g1
  obtain ⟨Y2, cy2, xs2, g2, hx2, hxw2, _⟩ := ri_of hf2 (fun n hn => hz n (DataW.weights_mem_each (j := 2) rfl rfl n hn))
  simp only [Value.cells, List.cons.injEq, and_true, Value.slice.injEq] at g2
  obtain ⟨rfl, rfl, rfl⟩ := g2
  obtain ⟨Y3, cy3, xs3, g3, hx3, hxw3, _⟩ := ri_of hf3 (fun n hn => hz n (DataW.weights_mem_each (j := 3) rfl rfl n hn))
  simp only [Value.cells, List.cons.injEq, and_true, Value.slice.injEq] at g3
  obtain ⟨rfl, rfl, rfl⟩ := g3
  obtain ⟨z4, g4, hzw4⟩ := num_of Try.underlying3 hf4
  have hn4 : wfI n4 := by
    injection g4 with _ g4
    rw [g4]; exact hzw4
  clear hA0 hval0 hsz0 hsz
  refine (runSafe_any W A0 c0 B0 e0 f0 a1 cap1 _ xs1 a2 cap2 _ xs2 a3 cap3 _ xs3 n4 hp0 hb0 hx1 rfl hx2 rfl hx3 rfl hw0 (fun v hv => okI_of (hxw1 v hv)) (fun v hv => okI_of (hxw2 v hv)) (fun v hv => okI_of (hxw3 v hv))).mono fun e W' ⟨he, bel⟩ => ?_
  subst he
  exact ⟨_, rfl, _, _, _, [], _, [], hW', trodAll_mk1 (shut_bool Try.underlying4 _), (trodAll_cons_mk (Below.trod runSafe_laidOut (by kernel_rfl) (of_decide_eq_true (by kernel_rfl)) k0 bel lt0) (trodAll_cons_mk (Below.trod runSafe_laidOut (by kernel_rfl) (of_decide_eq_true (by kernel_rfl)) k1 bel lt1) (trodAll_cons_mk (Below.trod runSafe_laidOut (by kernel_rfl) (of_decide_eq_true (by kernel_rfl)) k2 bel lt2) (trodAll_cons_mk (Below.trod runSafe_laidOut (by kernel_rfl) (of_decide_eq_true (by kernel_rfl)) k3 bel lt3) (trodAll_cons_mk (Below.trod runSafe_laidOut (by kernel_rfl) (of_decide_eq_true (by kernel_rfl)) k4 bel lt4) trodAll_mk0))))), rfl, bel.frame _, fun h => by cases h⟩
theorem runSafe_holds : Rows.RunSafeSaid :=
  OpenClaim.holds_of_wide 5 Try.f5 rfl rfl rfl rfl rfl rfl rfl ⟨rfl, rfl, rfl, rfl, rfl⟩ rfl rfl rfl rfl rfl (by kernel_rfl) Try.func5 (by kernel_rfl)
    (of_decide_eq_true (by kernel_rfl)) (by unfold Func.isWrapper; first | (rw [if_pos (by decide +kernel)]; kernel_rfl) | (rw [if_neg (by decide +kernel)]; exact ⟨rfl, rfl⟩))
    (fun os started H enc _ => runSafe_lifted os started H enc)
#print axioms runSafe_holds
end Go.Proofs.Ytnbmmfkkjceehaa
