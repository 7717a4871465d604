/- Contract: (*Run).word. -/
import Derived.Test.YtnbmmfkkjceehaaR9
namespace Go.Proofs.Ytnbmmfkkjceehaa
set_option linter.unusedSimpArgs false
set_option linter.unusedVariables false
open Go.RowKit

def wordI (s : ValF) (i : InsD) : Int := wrap64 (getV s i.a + i.imm)
theorem u64_lt (q : Int) (n : Nat) (h : wfI q) (hn : n ≤ 64) : IntKind.u64.wrap q < n ↔ 0 ≤ q ∧ q < n := by
  have e : IntKind.u64.wrap q = q % 18446744073709551616 := by simp [IntKind.wrap, IntKind.bits, IntKind.signed]
  rw [e]
  unfold wfI at h
  omega
theorem u64_nat (k : Nat) (hk : k ≤ 64) : IntKind.u64.wrap (k : Int) = k := by
  have e : IntKind.u64.wrap (k : Int) = (k : Int) % 18446744073709551616 := by simp [IntKind.wrap, IntKind.bits, IntKind.signed]
  rw [e]; omega
theorem wrap64_wfI (x : Int) : wfI (wrap64 x) := by unfold wfI wrap64; omega
theorem i64_wrap (x : Int) : IntKind.i64.wrap x = wrap64 x := by rw [IntKind.wrap_i64]; unfold wrap64; omega
def RetWord (M : Option Addr) (len : Nat) (q : Int) (w : World) (e : Ending) (w' : World) : Prop := Below w.heap.size w w' ∧
  ((0 ≤ q ∧ q < len ∧ ∃ g k, M = some ⟨g, 0, none⟩ ∧ q = (k : Nat) ∧ e = .returned (.tuple #[.pointer (some ⟨g, k, none⟩), .bool true])) ∨
   (¬ (0 ≤ q ∧ q < len) ∧ e = .returned (.tuple #[.pointer none, .bool false])))
set_option maxRecDepth 100000 in
set_option maxHeartbeats 2000000 in
theorem word_any (w : World) (base p m n : Nat) (h : RunH) (f : FnD) (s : RunD) (A : Option Addr) (c : Nat) (i : InsD) (hr : RunAt w base p m n h f s) (ha : okI i.a) (hlen : s.mem.length ≤ 64) : Calls Try.prog 41 #[.pointer (some ⟨p, 0, none⟩), insV A c i] w (RetWord h.M s.mem.length (wordI s.vars i) w) := by
  have c0 := hr.c0
  have c7 := hr.c7
  have hpl : p < w.heap.size := lt_of_block hr.cell
  have hlk : ∀ k (o : Obj), (Instr.lookup 71 (.map (some m)) (.int .i64 i.a) false).run Try.prog ((w.alloc o).drewN k) = .ok (.int .i64 (getV s.vars i.a)) ((w.alloc o).drewN k) := fun k o => (hr.vars.kept (w' := (w.alloc o).drewN k) (Below.heap_alloc w o m hr.vars.lt)).look Try.mapVars _ ha
  obtain ⟨y, hy⟩ : ∃ y, getV s.vars i.a = y := ⟨_, rfl⟩
  simp only [hy] at hlk
  obtain ⟨q, hq⟩ : ∃ q, IntKind.i64.wrap (y + i.imm) = q := ⟨_, rfl⟩
  have HQ : Hid (wordI s.vars i = q) := Lib.hid (by unfold wordI; rw [hy, ← hq, i64_wrap])
  have hqw : wfI q := by rw [← hq, i64_wrap]; exact wrap64_wfI _
  have HM := Lib.hid hr.mem
  clear hr ha
  simp only [insV]
  by_cases hin : 0 ≤ q ∧ q < (s.mem.length : Int)
  · obtain ⟨k, rfl⟩ := Int.eq_ofNat_of_zero_le hin.1
    have hkl : k < s.mem.length := by omega
    have hu := u64_nat k (by omega)
    obtain ⟨g, cap, hv, _, _⟩ := HM.out.form (by omega)
    have hMg : h.M = some ⟨g, 0, none⟩ := by injection hv
    rw [hMg] at c7
    have HG := Lib.hid hMg
    clear hin hqw hv hMg
    go_enter Try.func41, Try.ntmps41
    go_wp2_with fail
    go_quiet (fail)
    clear hq
    go_wp2
    go_ret2
    rw [HQ.out]
    exact ⟨below_dn ((Below.refl _ _).alloc (Nat.le_refl _) _) _, .inl ⟨by omega, by omega, g, k, HG.out, rfl, rfl⟩⟩
  · have hu : ¬ IntKind.u64.wrap q < (s.mem.length : Int) := fun hc => hin ((u64_lt q _ hqw hlen).1 hc)
    have HIn := Lib.hid hin
    obtain ⟨z, hz⟩ : ∃ z, IntKind.u64.wrap q = z := ⟨_, rfl⟩
    rw [hz] at hu
    clear hin hqw
    go_enter Try.func41, Try.ntmps41
    go_wp2_with fail
    go_quiet (fail)
    clear hq
    go_wp2
    go_ret2
    rw [HQ.out]
    exact ⟨below_dn ((Below.refl _ _).alloc (Nat.le_refl _) _) _, .inr ⟨HIn.out, rfl⟩⟩
end Go.Proofs.Ytnbmmfkkjceehaa
