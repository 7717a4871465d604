/- Contracts: ir.IsIns, ir.IsTerm, ir.Defines, ir.Needs. -/
import Derived.Test.YtnbmmfkkjceehaaA1
namespace Go.Proofs.Ytnbmmfkkjceehaa
set_option linter.unusedSimpArgs false
set_option linter.unusedVariables false
open Go.RowKit

def insV (A : Option Addr) (c : Nat) (i : InsD) : Value := .agg #[.int .i64 i.op, .int .i64 i.dst, .int .i64 i.a, .int .i64 i.b, .int .i64 i.imm, .int .i64 i.callee, .slice A i.args.length c, .int .i64 i.many]
def isInsS (s : Shape × Bool) (i : InsD) : Bool :=
  if !s.2 || i.many != 0 then false
  else if s.1.call then noneB [i.a, i.b, i.imm] && (decide (IntKind.u64.wrap i.callee ≤ 99)) && fitsB (i.dst != 0) i.dst && decide (i.args.length ≤ 8) && !i.args.any (fun n => !varB n)
  else if (!s.1.imm && i.imm != 0) || decide (i.imm < -1099511627776) || decide (1099511627776 < i.imm) then false
  else i.callee == 0 && i.args.length == 0 && fitsB s.1.dst i.dst && fitsB s.1.a i.a && fitsB s.1.b i.b
def isInsB (i : InsD) : Bool := isInsS (shapeOf i.op) i

set_option maxRecDepth 100000 in
set_option maxHeartbeats 1000000 in
theorem isIns_any (w : World) (A : Option Addr) (c : Nat) (i : InsD) (h : RI w A c i.args) :
    Calls Try.prog 32 #[insV A c i] w (RetBb (isInsB i) w) := by
  unfold isInsB
  obtain ⟨op, dst, a, b, imm, callee, args, many⟩ := i
  obtain ⟨⟨⟨sd, sa, sb, si, sc⟩, is⟩, hs⟩ : ∃ s, shapeOf op = s := ⟨_, rfl⟩
  have Hs := Lib.hid hs
  have H := Lib.hid h
  clear hs h
  simp only [insV]
  dsimp only at H ⊢
  rw [Hs.out]
  go_enter Try.func32, Try.ntmps32
  cases is
  · go_wp2_with (go_at_call 46; refine (shaped_any _ _).mono ?_; rintro e w1 ⟨rfl, rfl⟩; rw [Hs.out]; simp only [shapeV, shapeC])
    go_ret
    exact ⟨by simp [isInsS], by go_grown⟩
  · cases sc
    · go_wp2_with (first
      | (go_at_call 46; refine (shaped_any _ _).mono ?_; rintro e w1 ⟨rfl, rfl⟩; rw [Hs.out]; simp only [shapeV, shapeC])
      | (go_at_call 45; refine (fits_any _ _ _).mono ?_; rintro e w' ⟨rfl, rfl⟩))
      all_goals (go_ret; refine ⟨ret_bool ?_, by go_grown⟩; simp [isInsS, *])
    · go_wp2_with (first
      | (go_at_call 46; refine (shaped_any _ _).mono ?_; rintro e w1 ⟨rfl, rfl⟩; rw [Hs.out]; simp only [shapeV, shapeC])
      | (go_at_call 45; refine (fits_any _ _ _).mono ?_; rintro e w' ⟨rfl, rfl⟩)
      | (go_at_call 43; refine (none_any _ _ _ _ [a, b, imm] rfl (RI.three (by simp) (by simp [go_sem]) (by simp [go_sem]) (by simp [go_sem]))).mono ?_; rintro e w' ⟨rfl, rfl⟩)
      | (go_at_call 48; refine (containsFunc_any _ _ _ _ args _ _ _ rfl (H.out.below (by go_grown)) (pred_odd _ _)).mono ?_; rintro e w' ⟨rfl, rfl⟩))
      all_goals (go_ret; refine ⟨ret_bool ?_, by go_grown⟩; simp [isInsS, *]; try omega)

/-! ### ends -/
def termV (t : TermD) : Value := .agg #[.int .i64 t.kind, .int .i64 t.a, .int .i64 t.t0, .int .i64 t.t1]
def isTermB (t : TermD) : Bool :=
  if t.kind = 1 then noneB [t.a, t.t1]
  else if t.kind = 2 then varB t.a
  else if t.kind = 3 then fitsB (t.a != 0) t.a && noneB [t.t0, t.t1]
  else t.kind == 4 && noneB [t.a, t.t0, t.t1]
set_option maxRecDepth 100000 in
set_option maxHeartbeats 1000000 in
theorem isTerm_any (w : World) (t : TermD) : Calls Try.prog 31 #[termV t] w (RetBb (isTermB t) w) := by
  obtain ⟨kind, a, t0, t1⟩ := t
  simp only [termV]
  by_cases h1 : kind = 1
  · subst h1
    go_enter Try.func31, Try.ntmps31
    go_wp2_with (go_at_call 43; refine (none_any _ _ _ _ [a, t1] rfl (RI.two (by simp) (by simp [go_sem]) (by simp [go_sem]))).mono ?_; rintro e w' ⟨rfl, rfl⟩)
    go_ret
    exact ⟨ret_bool (by simp [isTermB]), by go_grown⟩
  by_cases h2 : kind = 2
  · subst h2
    go_enter Try.func31, Try.ntmps31
    go_wp2_with (go_at_call 44; refine (variable_any _ _).mono ?_; rintro e w' ⟨rfl, rfl⟩)
    go_ret
    exact ⟨ret_bool (by simp [isTermB]), by go_grown⟩
  by_cases h3 : kind = 3
  · subst h3
    go_enter Try.func31, Try.ntmps31
    go_wp2_with (first
      | (go_at_call 43; refine (none_any _ _ _ _ [t0, t1] rfl (RI.two (by simp) (by simp [go_sem]) (by simp [go_sem]))).mono ?_; rintro e w' ⟨rfl, rfl⟩)
      | (go_at_call 45; refine (fits_any _ _ _).mono ?_; rintro e w' ⟨rfl, rfl⟩))
    all_goals (go_ret; refine ⟨ret_bool ?_, by go_grown⟩; simp [isTermB, *])
  have e1 : (kind == 1) = false := by simpa using h1
  have e2 : (kind == 2) = false := by simpa using h2
  have e3 : (kind == 3) = false := by simpa using h3
  go_enter Try.func31, Try.ntmps31
  go_wp2_with (go_at_call 43; refine (none_any _ _ _ _ [a, t0, t1] rfl (RI.three (by simp) (by simp [go_sem]) (by simp [go_sem]) (by simp [go_sem]))).mono ?_; rintro e w' ⟨rfl, rfl⟩)
  all_goals (go_ret; refine ⟨ret_bool ?_, by go_grown⟩; simp_all [isTermB])

def definesI (i : InsD) : Int := if isInsB i then i.dst else 0
theorem defines_any (w : World) (A : Option Addr) (c : Nat) (i : InsD) (h : RI w A c i.args) : Calls Try.prog 20 #[insV A c i] w (RetIb (definesI i) w) := by
  obtain ⟨b, hb⟩ : ∃ b, isInsB i = b := ⟨_, rfl⟩
  have D : definesI i = if b then i.dst else 0 := by unfold definesI; rw [hb]
  have HB := Lib.hid hb
  have HD := Lib.hid D
  have H := Lib.hid h
  clear D hb h
  simp only [insV]
  cases b
  all_goals
    go_enter Try.func20, Try.ntmps20
    go_wp2_with (go_at_call 32; refine (isIns_any _ A c i (H.out.below (by go_grown))).mono ?_; rintro e w1 ⟨rfl, hb⟩; rw [HB.out]; obtain ⟨hc, hf⟩ := bcell hb; have hz : w.heap.size < w1.heap.size := Nat.lt_of_lt_of_le (by simp) hb.size; simp only [World.size_alloc] at hc hf)
    go_ret
    exact ⟨ret_int HD.out.symm, ((Below.refl _ _).alloc (Nat.le_refl _) _).trans (hb.mono (by simp))⟩

def needsL (t : TermD) : List Int := if isTermB t && t.a != 0 then [t.a] else []
theorem needs_any (w : World) (t : TermD) : Calls Try.prog 18 #[termV t] w (RetRow 3 (needsL t) w) := by
  obtain ⟨b, hb⟩ : ∃ b, isTermB t = b := ⟨_, rfl⟩
  have D : needsL t = if b && t.a != 0 then [t.a] else [] := by unfold needsL; rw [hb]
  have HB := Lib.hid hb
  have HD := Lib.hid D
  clear D hb
  simp only [termV]
  cases b
  all_goals
    go_enter Try.func18, Try.ntmps18
    go_wp2_with (go_at_call 31; refine (isTerm_any _ t).mono ?_; rintro e w1 ⟨rfl, hb⟩; rw [HB.out]; obtain ⟨hc, hf⟩ := bcell hb; have hz : w.heap.size < w1.heap.size := Nat.lt_of_lt_of_le (by simp) hb.size; simp only [World.size_alloc] at hc hf)
    all_goals (go_ret; rw [HD.out]; first | (simp [*]; done) | skip)
    all_goals first
      | exact RetRow.nil (((Below.refl _ _).alloc (Nat.le_refl _) _).trans (hb.mono (by simp)))
      | (simp only [*, Bool.true_and, bne, Bool.not_true, Bool.not_false, if_true, Bool.false_eq_true, if_false]; exact RetRow.nil (((Below.refl _ _).alloc (Nat.le_refl _) _).trans (hb.mono (by simp))))
      | (simp only [*, Bool.true_and, bne, Bool.not_true, Bool.not_false, if_true, Bool.false_eq_true, if_false]; exact ⟨_, rfl, (((Below.refl _ _).alloc (Nat.le_refl _) _).trans (hb.mono (by simp))).alloc (Nat.le_of_lt hz) _, World.ownsRow_lit w1 #[.int .i64 t.a] 1 (Nat.le_of_lt hz) (by decide) rfl⟩)
end Go.Proofs.Ytnbmmfkkjceehaa
