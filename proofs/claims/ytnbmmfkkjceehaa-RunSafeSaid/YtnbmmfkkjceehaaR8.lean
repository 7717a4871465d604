/- Contracts: (*Run).At, (*Run).Var, run.trap, (vars).all. -/
import Derived.Test.YtnbmmfkkjceehaaR7
import Derived.Deep.QuietTactic
import Derived.BigQuiet
namespace Go.Proofs.Ytnbmmfkkjceehaa
set_option linter.unusedSimpArgs false
set_option linter.unusedVariables false
open Go.RowKit

theorem Try.mapVars : Try.prog.underlying 71 = some (.map 3 3) := by kernel_rfl
theorem below_dn {B : Nat} {a w : World} (h : Below B a w) (n : Nat) : Below B a (w.drewN n) := h.trans ⟨rfl, rfl, rfl, Nat.le_refl _, fun _ _ => rfl⟩
def RetAt (s : RunD) (w : World) (e : Ending) (w' : World) : Prop := e = .returned (.tuple #[.int .i64 s.block, .int .i64 s.ins]) ∧ Below w.heap.size w w'
set_option maxRecDepth 100000 in
set_option maxHeartbeats 1000000 in
theorem at_any (w : World) (base p m n : Nat) (h : RunH) (f : FnD) (s : RunD) (hr : RunAt w base p m n h f s) : Calls Try.prog 15 #[.pointer (some ⟨p, 0, none⟩)] w (RetAt s w) := by
  have c1 := hr.c1
  have c2 := hr.c2
  clear hr
  go_enter Try.func15, Try.ntmps15
  go_wp2_with fail
  go_quiet (fail)
  go_wp2
  go_ret2
  exact ⟨rfl, below_dn (Below.refl _ _) _⟩
def RetVar (s : RunD) (v : Int) (w : World) (e : Ending) (w' : World) : Prop := e = .returned (.tuple #[.int .i64 ((s.vars v).getD 0), .bool (s.vars v).isSome]) ∧ w = w'
set_option maxRecDepth 100000 in
set_option maxHeartbeats 1000000 in
theorem var_any (w : World) (base p m n : Nat) (h : RunH) (f : FnD) (s : RunD) (v : Int) (hr : RunAt w base p m n h f s) (hv : okI v) : Calls Try.prog 21 #[.pointer (some ⟨p, 0, none⟩), .int .i64 v] w (RetVar s v w) := by
  have c0 := hr.c0
  have hlk := hr.vars.lookOk Try.mapVars v hv
  clear hr hv
  obtain ⟨x, hx⟩ : ∃ x, (s.vars v).getD 0 = x := ⟨_, rfl⟩
  obtain ⟨y, hy⟩ : ∃ y, (s.vars v).isSome = y := ⟨_, rfl⟩
  have HX := Lib.hid hx
  have HY := Lib.hid hy
  rw [hx, hy] at hlk
  clear hx hy
  go_enter Try.func21, Try.ntmps21
  go_wp2
  go_ret2
  rw [← HX.out, ← HY.out]
  exact ⟨rfl, rfl⟩
def trapV : Value := .iface 77 (.agg #[.int .i64 2, .int .i64 0])
theorem trap_any (w : World) : Calls Try.prog 42 #[] w (fun e w' => e = .returned trapV ∧ w = w') := by
  go_enter Try.func42, Try.ntmps42
  go_wp2
  go_ret
  exact ⟨rfl, rfl⟩
end Go.Proofs.Ytnbmmfkkjceehaa
