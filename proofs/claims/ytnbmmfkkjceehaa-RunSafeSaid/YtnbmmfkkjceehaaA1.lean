/- Contracts: ir.variable, ir.fits, slices.IndexFunc and ContainsFunc over ints, ir.none, ir.shaped. -/
import Derived.Test.YtnbmmfkkjceehaaProg
import Derived.Test.YtnbmmfkkjceehaaD0
import Derived.KernelRfl
import Derived.Lib.Hide
namespace Go.Proofs.Ytnbmmfkkjceehaa
set_option linter.unusedSimpArgs false
set_option linter.unusedVariables false
open Go.RowKit

def varB (n : Int) : Bool := decide (1 ≤ n) && decide (n ≤ 200)
theorem variable_any (n : Int) (w : World) : Calls Try.prog 44 #[.int .i64 n] w (RetB (varB n) w) := by
  by_cases h : 1 ≤ n
  · go_enter Try.func44, Try.ntmps44
    go_wp2
    go_ret
    exact ⟨ret_bool (by simp [varB, h]), rfl⟩
  · go_enter Try.func44, Try.ntmps44
    go_wp2
    go_ret
    exact ⟨ret_bool (by simp [varB]; omega), rfl⟩
def fitsB (b : Bool) (n : Int) : Bool := if b then varB n else n == 0
theorem fits_any (b : Bool) (n : Int) (w : World) : Calls Try.prog 45 #[.bool b, .int .i64 n] w (RetB (fitsB b n) w) := by
  cases b
  all_goals
    go_enter Try.func45, Try.ntmps45
    go_wp2_with (go_at_call 44; refine (variable_any _ _).mono ?_; rintro e w' ⟨rfl, rfl⟩)
    go_ret
    exact ⟨rfl, rfl⟩

/-- A predicate on ints, as a function value: it leaves the world alone. -/
structure PredI (g : Nat) (caps : Array Value) (w : World) (xs : List Int) (p : Int → Bool) : Prop where
  enter : ∀ args w, (callFunc g args).run Try.prog w = .ok (.enter g args) w
  calls : ∀ x, x ∈ xs → Calls Try.prog g (#[.int .i64 x] ++ caps) w (RetB (p x) w)

def idxI (p : Int → Bool) (xs : List Int) : Int := if xs.any p then ((xs.findIdx p : Nat) : Int) else -1
theorem idxI_hit (p : Int → Bool) (xs : List Int) (k : Nat) (hk : k < xs.length) (h : ∀ x ∈ xs.take k, p x = false) (hp : p xs[k] = true) : idxI p xs = k := by
  have ha : xs.any p = true := List.any_eq_true.2 ⟨_, List.getElem_mem hk, hp⟩
  unfold idxI
  rw [if_pos ha, (List.findIdx_eq hk).2 ⟨hp, fun j hj => ?_⟩]
  refine Bool.eq_false_iff.1 (h _ ?_) |> Bool.eq_false_iff.2
  rw [List.mem_iff_getElem?]
  exact ⟨j, by rw [List.getElem?_take_of_lt hj, List.getElem?_eq_getElem]⟩
theorem idxI_miss (p : Int → Bool) (xs : List Int) (h : ∀ x ∈ xs, p x = false) : idxI p xs = -1 := by
  have ha : xs.any p = false := by rw [List.any_eq_false]; exact fun x hx => by simp [h x hx]
  unfold idxI
  rw [ha]; rfl

set_option maxHeartbeats 400000 in
theorem indexFunc_any (w : World) (A : Option Addr) (n c : Nat) (xs : List Int) (g : Nat) (caps : Array Value) (p : Int → Bool) (hn : xs.length = n) (h : RI w A c xs) (hp : PredI g caps w xs p) :
    Calls Try.prog 58 #[.slice A n c, .func (.func g) #[] caps] w (RetI (idxI p xs) w) := by
  subst hn
  have hb := h.1
  have H := Lib.hid h
  have Hp := Lib.hid hp
  have henter := hp.enter
  clear h hp
  go_enter Try.func58, Try.ntmps58
  go_wp2_with fail
  go_loop [8] (fun i => ∃ k : Nat, k ≤ xs.length ∧ i = .int .i64 k ∧ Hid (∀ x ∈ xs.take k, p x = false)) (fun i => xs.length - (intOf i).toNat)
  case atStart => exact ⟨0, Nat.zero_le _, rfl, by intro x hx; simp at hx⟩
  case round =>
    obtain ⟨k, hk, rfl, Ht⟩ := hrel
    by_cases hlt : k < xs.length
    · obtain ⟨b, o, hA, hbs, hc⟩ := H.out.at k hlt
      subst hA
      cases hpx : p xs[k]
      · have Hpx := Lib.hid hpx
        clear hpx
        go_wp2_with ((with_reducible refine (Hp.out.calls _ (List.getElem_mem hlt)).mono ?_); rintro e w' ⟨rfl, rfl⟩; rw [Hpx.out])
        go_round
        case rel =>
          refine ⟨k + 1, by omega, by go_num, ?_⟩
          intro x hx
          rw [List.take_add_one, List.getElem?_eq_getElem hlt, List.mem_append] at hx
          rcases hx with hx | hx
          · exact Ht.out x hx
          · simp at hx; rw [hx]; exact Hpx.out
        case measure => simp [intOf]; omega
      · have Hpx := Lib.hid hpx
        clear hpx
        go_wp2_with ((with_reducible refine (Hp.out.calls _ (List.getElem_mem hlt)).mono ?_); rintro e w' ⟨rfl, rfl⟩; rw [Hpx.out])
        go_ret
        exact ⟨ret_int (idxI_hit p xs k hlt Ht.out Hpx.out).symm, rfl⟩
    · go_wp2
      go_ret
      exact ⟨ret_int (by rw [idxI_miss]; intro x hx; exact Ht.out x (by rw [List.take_of_length_le (by omega)]; exact hx)), rfl⟩
theorem idxI_any (p : Int → Bool) (xs : List Int) : decide (0 ≤ idxI p xs) = xs.any p := by
  unfold idxI
  cases h : xs.any p
  · rfl
  · simp

theorem containsFunc_any (w : World) (A : Option Addr) (n c : Nat) (xs : List Int) (g : Nat) (caps : Array Value) (p : Int → Bool) (hn : xs.length = n) (h : RI w A c xs) (hp : PredI g caps w xs p) :
    Calls Try.prog 48 #[.slice A n c, .func (.func g) #[] caps] w (RetB (xs.any p) w) := by
  have C := Lib.hid (indexFunc_any w A n c xs g caps p hn h hp)
  have E := Lib.hid (idxI_any p xs)
  clear hn h hp
  go_enter Try.func48, Try.ntmps48
  go_wp2_with ((with_reducible refine C.out.mono ?_); rintro e w' ⟨rfl, rfl⟩)
  go_ret
  exact ⟨ret_bool E.out, rfl⟩

theorem none1_any (n : Int) (w : World) : Calls Try.prog 57 #[.int .i64 n] w (RetB (n != 0) w) := by
  go_enter Try.func57, Try.ntmps57
  go_wp2
  go_ret
  exact ⟨rfl, rfl⟩
theorem isIns1_any (n : Int) (w : World) : Calls Try.prog 47 #[.int .i64 n] w (RetB (!varB n) w) := by
  go_enter Try.func47, Try.ntmps47
  go_wp2_with (go_at_call 44; refine (variable_any _ _).mono ?_; rintro e w' ⟨rfl, rfl⟩)
  go_ret
  exact ⟨rfl, rfl⟩
theorem pred_none (w : World) (xs : List Int) : PredI 57 #[] w xs (fun n => n != 0) := ⟨fun _ _ => by kernel_rfl, fun x _ => none1_any x w⟩
theorem pred_odd (w : World) (xs : List Int) : PredI 47 #[] w xs (fun n => !varB n) := ⟨fun _ _ => by kernel_rfl, fun x _ => isIns1_any x w⟩

def noneB (xs : List Int) : Bool := !xs.any (fun n => n != 0)
theorem none_any (w : World) (A : Option Addr) (n c : Nat) (xs : List Int) (hn : xs.length = n) (h : RI w A c xs) :
    Calls Try.prog 43 #[.slice A n c] w (RetB (noneB xs) w) := by
  have C := Lib.hid (containsFunc_any w A n c xs _ _ _ hn h (pred_none w xs))
  clear hn h
  go_enter Try.func43, Try.ntmps43
  go_wp2_with ((with_reducible refine C.out.mono ?_); rintro e w' ⟨rfl, rfl⟩)
  go_ret
  exact ⟨rfl, rfl⟩

structure Shape where
  dst : Bool
  a : Bool
  b : Bool
  imm : Bool
  call : Bool
def shapeOf (o : Int) : Shape × Bool :=
  if o = 13 then (⟨false, false, false, false, true⟩, true)
  else if o = 1 then (⟨true, false, false, true, false⟩, true)
  else if o = 12 then (⟨false, true, true, true, false⟩, true)
  else if o = 11 then (⟨true, true, false, true, false⟩, true)
  else if o = 14 then (⟨true, true, false, false, false⟩, true)
  else (⟨true, true, true, false, false⟩, decide (2 ≤ o) && decide (o ≤ 10))
def shapeV (s : Shape × Bool) : Value := .tuple #[.agg #[.bool s.1.dst, .bool s.1.a, .bool s.1.b, .bool s.1.imm, .bool s.1.call], .bool s.2]
def shapeC (s : Shape) : Array Value := #[.bool s.dst, .bool s.a, .bool s.b, .bool s.imm, .bool s.call]
def RetShape (o : Int) (w : World) (e : Ending) (w' : World) : Prop := e = .returned (shapeV (shapeOf o)) ∧ w' = w.alloc (.cells (shapeC (shapeOf o).1) 98)
set_option maxHeartbeats 1000000 in
theorem shaped_any (o : Int) (w : World) : Calls Try.prog 46 #[.int .i64 o] w (RetShape o w) := by
  go_enter Try.func46, Try.ntmps46
  go_wp2
  all_goals refine bodyPost_ret (v := shapeV (shapeOf o)) ?_ rfl ⟨rfl, ?_⟩
  all_goals (simp [results, Try.results46, go_sem, shapeV, shapeC, shapeOf]; simp_all; try omega)
end Go.Proofs.Ytnbmmfkkjceehaa
