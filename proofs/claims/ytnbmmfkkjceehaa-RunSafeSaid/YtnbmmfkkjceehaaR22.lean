/- Contracts: BlocksOf, FuncOf (how great a function is, counted till a bound is passed). -/
import Derived.Test.YtnbmmfkkjceehaaR21
import Derived.Deep.QuietTactic
import Derived.BigQuiet
import Derived.IntWalk
import Derived.Deep.RegionHeld3
namespace Go.Proofs.Ytnbmmfkkjceehaa
set_option linter.unusedSimpArgs false
set_option linter.unusedVariables false
open Go.RowKit

def argsN (l : List InsD) : Nat := (l.map fun i => i.args.length).sum
def blkN (l : List BlkD) : Nat := (l.map fun x => 1 + x.ins.length + argsN x.ins).sum
theorem argsN_snoc (l : List InsD) (k : Nat) (h : k < l.length) : argsN (l.take (k + 1)) = argsN (l.take k) + l[k].args.length := by
  unfold argsN; rw [take_snoc_eq l k h, List.map_append, List.sum_append]; simp
theorem blkN_snoc (l : List BlkD) (k : Nat) (h : k < l.length) : blkN (l.take (k + 1)) = blkN (l.take k) + (1 + l[k].ins.length + argsN l[k].ins) := by
  unfold blkN; rw [take_snoc_eq l k h, List.map_append, List.sum_append]; simp
def RetCnt (l : List BlkD) (most : Int) (w : World) (e : Ending) (w' : World) : Prop := ∃ n : Int, e = .returned (.int .i64 n) ∧ 0 ≤ n ∧ n ≤ most + 140737488351300 ∧ (n ≤ most → n = (blkN l : Nat)) ∧ w = w'
set_option maxHeartbeats 1000000 in
theorem blocksOf_any (w : World) (A : Option Addr) (c m : Nat) (l : List BlkD) (most : Int) (hm0 : 0 ≤ most) (hm1 : most ≤ 1000000) (hn : l.length = m) (h : RBlk w A c l) : Calls Try.prog 25 #[.slice A m c, .int .i64 most] w (RetCnt l most w) := by
  subst hn
  have hbig := h.big
  have H := Lib.hid h
  clear h
  go_enter Try.func25, Try.ntmps25
  go_wp2_with fail
  go_loop [5, 6] (fun nv kv => ∃ (n : Int) (k : Nat), k ≤ l.length ∧ kv = .int .i64 k ∧ nv = .int .i64 n ∧ 0 ≤ n ∧ n ≤ most + 140737488351300 ∧ Hid (n ≤ most → n = (blkN (l.take k) : Nat))) (fun _ kv => l.length - (intOf kv).toNat)
  case atStart => exact ⟨0, 0, Nat.zero_le _, rfl, rfl, by omega, by omega, Lib.hid (by simp [blkN])⟩
  case round =>
    obtain ⟨n, k, hk, rfl, rfl, hn0, hn1, HN⟩ := hrel
    by_cases hlt : k < l.length
    · by_cases hm : n ≤ most
      · obtain ⟨b, o, A', c', hA, hbs, hat⟩ := H.out.at k hlt
        subst hA
        have g0 := hat.c0
        have hib := hat.ins.big
        have HI := Lib.hid hat.ins
        have HE : Hid (n = (blkN (l.take k) : Nat)) := Lib.hid (HN.out hm)
        clear hat
        go_wp2_with fail
        go_loop [5, 7] (fun nv jv => ∃ (n2 : Int) (j : Nat), j ≤ l[k].ins.length ∧ jv = .int .i64 j ∧ nv = .int .i64 n2 ∧ 0 ≤ n2 ∧ n2 ≤ most + 140737488351300 ∧ Hid (n2 ≤ most → n2 = n + 1 + l[k].ins.length + (argsN (l[k].ins.take j) : Nat)) ∧ Hid (j < l[k].ins.length ∨ n2 = n + 1 + l[k].ins.length + (argsN (l[k].ins.take j) : Nat) ∨ most < n2)) (fun _ jv => l[k].ins.length - (intOf jv).toNat)
        case atStart => exact ⟨_, 0, Nat.zero_le _, rfl, rfl, by omega, by omega, Lib.hid (by simp [argsN]), Lib.hid (by simp [argsN])⟩
        case round =>
          obtain ⟨n2, j, hj, rfl, rfl, hn20, hn21, HN2, HN3⟩ := hrel
          by_cases hjl : j < l[k].ins.length
          · by_cases hm2 : n2 ≤ most
            · obtain ⟨b2, o2, A2, c2, hA2, hbs2, hat2⟩ := HI.out.at j hjl
              subst hA2
              have e6 := hat2.c6
              have hab := hat2.args.big
              have HE2 : Hid (n2 = n + 1 + l[k].ins.length + (argsN (l[k].ins.take j) : Nat)) := Lib.hid (HN2.out hm2)
              have HS := Lib.hid (argsN_snoc l[k].ins j hjl)
              clear hat2
              go_wp2_with fail
              go_round
              case rel =>
                refine ⟨_, j + 1, by omega, by go_num, rfl, by omega, by omega, Lib.hid (fun _ => ?_), Lib.hid (.inr (.inl ?_))⟩
                · rw [HS.out, HE2.out]; omega
                · rw [HS.out, HE2.out]; omega
              case measure => simp [intOf]; omega
            · go_wp2_with fail
              go_round
              case rel =>
                refine ⟨n2, k + 1, by omega, by go_num, rfl, by omega, by omega, Lib.hid (fun h => by omega)⟩
              case measure => simp [intOf]; omega
          · have HS := Lib.hid (blkN_snoc l k hlt)
            have HL : Hid (l[k].ins.take j = l[k].ins) := Lib.hid (List.take_of_length_le (by omega))
            go_wp2_with fail
            go_round
            case rel =>
              refine ⟨n2, k + 1, by omega, by go_num, rfl, by omega, by omega, Lib.hid (fun h => ?_)⟩
              have h2 := HN2.out h
              rw [HL.out] at h2
              rw [HS.out, h2, HE.out]; omega
            case measure => simp [intOf]; omega
      · go_wp2_with fail
        go_ret
        exact ⟨n, rfl, hn0, hn1, fun h => by omega, rfl⟩
    · have HL : Hid (l.take k = l) := Lib.hid (List.take_of_length_le (by omega))
      go_wp2_with fail
      go_ret
      exact ⟨n, rfl, hn0, hn1, fun h => by have := HN.out h; rwa [HL.out] at this, rfl⟩
def RetCntF (f : FnD) (most : Int) (w : World) (e : Ending) (w' : World) : Prop := ∃ n : Int, e = .returned (.int .i64 n) ∧ 0 ≤ n ∧ n ≤ 2 * 140737488351232 + 2000000 ∧ (n ≤ most → n = (f.params.length + blkN f.blocks : Nat)) ∧ Below w.heap.size w w'
set_option maxHeartbeats 1000000 in
theorem funcOf_any (w : World) (A : Option Addr) (c : Nat) (B : Option Addr) (d : Nat) (f : FnD) (most : Int) (hm0 : 0 ≤ most) (hm1 : most ≤ 1000000) (hp : RI w A c f.params) (h : RBlk w B d f.blocks) : Calls Try.prog 9 #[fnV A c B d f, .int .i64 most] w (RetCntF f most w) := by
  have hpbig := hp.big
  have hbig := h.big
  have H := Lib.hid h
  clear h hp
  simp only [fnV]
  go_enter Try.func9, Try.ntmps9
  go_wp2_with fail
  go_region_held3 (fun w' => w'.cell? ⟨w.heap.size, 0, none⟩ = some (.slice A f.params.length c) ∧ w'.cell? ⟨w.heap.size, 1, none⟩ = some (.slice B f.blocks.length d)) (go_keep) (first | (go_at_call 25; refine (blocksOf_any _ B d _ f.blocks most hm0 hm1 rfl (H.out.below (by go_grown))).mono ?_; rintro e w' ⟨n, rfl, hn0, hn1, hn2, rfl⟩; have HN := Lib.hid hn2; clear hn2))
  go_wp2_with fail
  go_ret
  exact ⟨(f.params.length : Int) + n, (by show Ending.returned (.int .i64 (IntKind.i64.wrap (↑f.params.length + n))) = _; rw [IntWalk.i64_in _ (by omega)]), by omega, by omega, fun h => by have := HN.out (by omega); omega, by go_grown⟩
end Go.Proofs.Ytnbmmfkkjceehaa
