/- Contract: the closure of ir.Vars that marks a row of variables. -/
import Derived.Test.YtddgdimjijefhaaA13
namespace Go.Proofs.Ytddgdimjijefhaa
set_option linter.unusedSimpArgs false
set_option linter.unusedVariables false
open Go.RowKit

def markL (s : SetF) (xs : List Int) : SetF := xs.foldl (fun s v => updF s v.toNat true) s
theorem markL_snoc (s : SetF) (xs : List Int) (v : Int) : markL s (xs ++ [v]) = updF (markL s xs) v.toNat true := by simp [markL]
theorem markL_append (s : SetF) (xs ys : List Int) : markL s (xs ++ ys) = markL (markL s xs) ys := by simp [markL]
/-- The array in block B holds s, and nothing else that was there has changed. -/
def RetMark (B : Nat) (T : TypeId) (s : SetF) (w : World) (e : Ending) (w' : World) : Prop := e = .returned (.tuple #[]) ∧ SetAt w' B T s ∧ w.grownBy w' (some B)
theorem grownBy_setCell {w w1 : World} {G : Nat} (h : w.grownBy w1 (some G)) (o : Nat) (v : Value) : w.grownBy (w1.setCell ⟨G, o, none⟩ v) (some G) := grownBy_setCells h [v] o
theorem RI.blk {w : World} {A : Option Addr} {c : Nat} {l : List Int} (h : RI w A c l) (hl : l ≠ []) {b o : Nat} (hA : A = some ⟨b, o, none⟩) : b < w.heap.size := by
  obtain ⟨b', o', h1, h2, _⟩ := h.at 0 (List.length_pos_iff.2 hl)
  rw [hA] at h1; cases h1; exact h2
set_option maxHeartbeats 1000000 in
theorem mark_any (w : World) (A : Option Addr) (c : Nat) (xs : List Int) (B : Nat) (s : SetF) (h : RI w A c xs) (hx : inSet xs) (hA : xs ≠ [] → ∀ b o, A = some ⟨b, o, none⟩ → b ≠ B) (hs : SetAt w B 120 s) : Calls Try.prog 82 #[.slice A xs.length c, .pointer (some ⟨B, 0, none⟩)] w (RetMark B 120 (markL s xs) w) := by
  have hbig := h.big
  have H := Lib.hid h
  have Hx := Lib.hid hx
  have HA := Lib.hid hA
  have HS := Lib.hid hs
  clear h hx hA hs
  go_enter Try.func82, Try.ntmps82
  go_wp2_with fail
  go_loopw [7] (fun i wr => ∃ k : Nat, k ≤ xs.length ∧ i = .int .i64 k ∧ SetAt wr B 120 (markL s (xs.take k)) ∧ w.grownBy wr (some B)) (fun i _ => xs.length - (intOf i).toNat)
  case atStart => exact ⟨0, Nat.zero_le _, rfl, HS.out, grownBy_refl _ _⟩
  case round =>
    obtain ⟨k, hk, rfl, hs, hg⟩ := hrel
    have HS1 := Lib.hid hs
    have HG := Lib.hid hg
    clear hs hg
    by_cases hlt : k < xs.length
    · obtain ⟨b, o, hA2, hbs, hc⟩ := (RI_kept H.out (HA.out (fun e => by rw [e] at hlt; simp at hlt)) HG.out).at k hlt
      subst hA2
      have hin := Hx.out _ (List.getElem_mem hlt)
      obtain ⟨v, hv⟩ := Int.eq_ofNat_of_zero_le hin.1
      have hv1 : v < 201 := by omega
      rw [hv] at hc
      have Hv := Lib.hid hv
      clear hv hin
      have hcs := HS1.out.cell v hv1
      have hfs := HS1.out.free v
      go_wp2
      go_roundw
      case rel =>
        refine ⟨k + 1, by omega, by go_num, ?_, grownBy_setCell HG.out _ _⟩
        rw [take_snoc_eq _ k hlt, markL_snoc, Hv.out]
        exact HS1.out.stored v hv1 true
      case measure => simp [intOf]; omega
    · have hkl : k = xs.length := by omega
      subst hkl
      go_wp2
      go_end0
      exact ⟨rfl, by have := HS1.out; rwa [List.take_length] at this, HG.out⟩
theorem mark_any_n (w : World) (A : Option Addr) (c n : Nat) (xs : List Int) (hn : xs.length = n) (B : Nat) (s : SetF) (h : RI w A c xs) (hx : inSet xs) (hA : xs ≠ [] → ∀ b o, A = some ⟨b, o, none⟩ → b ≠ B) (hs : SetAt w B 120 s) : Calls Try.prog 82 #[.slice A n c, .pointer (some ⟨B, 0, none⟩)] w (RetMark B 120 (markL s xs) w) := by
  subst hn
  exact mark_any w A c xs B s h hx hA hs
end Go.Proofs.Ytddgdimjijefhaa
