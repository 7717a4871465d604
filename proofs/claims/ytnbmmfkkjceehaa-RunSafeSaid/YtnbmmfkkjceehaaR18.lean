/- Contract: run.Go (its numbers). -/
import Derived.Test.YtnbmmfkkjceehaaR17
namespace Go.Proofs.Ytnbmmfkkjceehaa
set_option linter.unusedSimpArgs false
set_option linter.unusedVariables false
open Go.RowKit

def zeroR : Value := .agg #[.int .i64 0, .int .i64 0, .slice none 0 0, .slice none 0 0, .int .i64 0]
def zeroC : Array Value := #[.int .i64 0, .int .i64 0, .slice none 0 0, .slice none 0 0, .int .i64 0]
def RetGo (f : FnD) (ag mem ans : List Int) (fuel : Int) (w : World) (e : Ending) (w' : World) : Prop := Below w.heap.size w w' ∧
  ((¬ BeginOK f ag mem ∧ e = .returned (.tuple #[zeroR, .int .i64 2])) ∨
   (BeginOK f ag mem ∧ 20000 < fuel ∧ e = .returned (.tuple #[zeroR, .int .i64 3])) ∨
   (BeginOK f ag mem ∧ fuel ≤ 20000 ∧ ∃ C cc M mc, e = .returned (.tuple #[resV (itR f (runB f ag mem ans) fuel.toNat) C cc M mc, .int .i64 0]) ∧ RIQ (w.heap.size ≤ ·) w' M mc (itR f (runB f ag mem ans) fuel.toNat).mem ∧ RCallsQ (w.heap.size ≤ ·) w' C cc (itR f (runB f ag mem ans) fuel.toNat).calls))
theorem below_set5 {b R : Nat} {w w' : World} (h : Below b w w') (hR : b ≤ R) (v0 v1 v2 v3 v4 : Value) : Below b w (((((w'.setCell ⟨R, 0, none⟩ v0).setCell ⟨R, 1, none⟩ v1).setCell ⟨R, 2, none⟩ v2).setCell ⟨R, 3, none⟩ v3).setCell ⟨R, 4, none⟩ v4) :=
  ((((h.setCell hR _).setCell hR _).setCell hR _).setCell hR _).setCell hR _
theorem keep5 {Q : Nat → Prop} {R : Nat} (w' : World) (hQ : ∀ b, Q b → b ≠ R) (v0 v1 v2 v3 v4 : Value) : KeepQ Q w' (((((w'.setCell ⟨R, 0, none⟩ v0).setCell ⟨R, 1, none⟩ v1).setCell ⟨R, 2, none⟩ v2).setCell ⟨R, 3, none⟩ v3).setCell ⟨R, 4, none⟩ v4) :=
  ⟨by simp [World.setCell], fun b hb _ => by
    have hne := hQ b hb
    rw [Below.heap_setCell _ _ _ _ hne, Below.heap_setCell _ _ _ _ hne, Below.heap_setCell _ _ _ _ hne, Below.heap_setCell _ _ _ _ hne, Below.heap_setCell _ _ _ _ hne]⟩
set_option maxRecDepth 100000 in
set_option maxHeartbeats 4000000 in
theorem go_any (w : World) (A : Option Addr) (c : Nat) (B : Option Addr) (d : Nat) (f : FnD) (X : Option Addr) (cx nx : Nat) (ag : List Int) (Y : Option Addr) (cy ny : Nat) (mem : List Int) (Z : Option Addr) (cz nz : Nat) (ans : List Int) (fuel : Int)
    (hp : RI w A c f.params) (h : RBlk w B d f.blocks) (hx : RI w X cx ag) (hnx : ag.length = nx) (hy : RI w Y cy mem) (hny : mem.length = ny) (hz : RI w Z cz ans) (hnz : ans.length = nz) (hfw : FnW f) (hax : ∀ v ∈ ag, okI v) (ham : ∀ v ∈ mem, okI v) (han : ∀ v ∈ ans, okI v) (hzb : ans.length ≤ 1000000) :
    Calls Try.prog 10 #[fnV A c B d f, .slice X nx cx, .slice Y ny cy, .slice Z nz cz, .int .i64 fuel] w (RetGo f ag mem ans fuel w) := by
  have H := Lib.hid h
  have Hp := Lib.hid hp
  have Hx := Lib.hid hx
  have Hy := Lib.hid hy
  have Hz := Lib.hid hz
  have HFW := Lib.hid hfw
  have HAx := Lib.hid hax
  have HAm := Lib.hid ham
  have HAn := Lib.hid han
  clear h hp hx hy hz hfw hax ham han
  simp only [fnV]
  obtain ⟨w0, hw0⟩ : ∃ w0 : World, w0 = (w.alloc (.cells #[.slice A f.params.length c, .slice B f.blocks.length d] 30)).alloc (.cells zeroC 35) := ⟨_, rfl⟩
  have hb0 : Below w.heap.size w w0 := by rw [hw0]; go_grown
  have hz0 : w0.heap.size = w.heap.size + 2 := by rw [hw0]; simp
  have HB0 := Lib.hid hb0
  have HROW : Hid (∀ wr, Below w0.heap.size w0 wr → wr.heap[w.heap.size + 1]? = some (.cells #[.int .i64 0, .int .i64 0, .slice none 0 0, .slice none 0 0, .int .i64 0] 35 (0, 0))) := Lib.hid (fun wr hb => by
    rw [hb.block _ (by omega), hw0]
    have := heap_alloc_new (w.alloc (.cells #[.slice A f.params.length c, .slice B f.blocks.length d] 30)) (.cells zeroC 35)
    simpa [zeroC] using this)
  clear hb0
  unfold zeroC at hw0
  go_enter Try.func10, Try.ntmps10
  by_cases hok : BeginOK f ag mem
  · have HOK := Lib.hid hok
    have HPT := Lib.hid hok.parts
    have HSO := Lib.hid (begin_ok hok HAx.out HAm.out HAn.out)
    clear hok
    by_cases hfu : 20000 < fuel
    · have hfb : decide (fuel > 20000) = true := by simpa using hfu
      go_wp2_with (go_at_call 14; rw [← hw0]; refine (begin_any _ A c B d f X cx nx ag Y cy ny mem Z cz nz ans (Hp.out.below HB0.out) (H.out.below HB0.out) (Hx.out.below HB0.out) hnx (Hy.out.below HB0.out) hny (Hz.out.below HB0.out) hnz HFW.out HAx.out hzb).mono ?_; rintro e w1 ⟨hb1, hor⟩; obtain ⟨_, p, m, n, h, rfl, hr, hn8⟩ := hor.resolve_left (fun h => h.1 HOK.out); have HB3 := Lib.hid hb1; have hrow := HROW.out _ HB3.out; have z0 := frozen_of_row w1 _ 0 _ _ hrow; have z1 := frozen_of_row w1 _ 1 _ _ hrow; have z2 := frozen_of_row w1 _ 2 _ _ hrow; have z3 := frozen_of_row w1 _ 3 _ _ hrow; have z4 := frozen_of_row w1 _ 4 _ _ hrow; (have d0 := cell_of_row w1 _ 0 _ _ _ hrow); (have d1 := cell_of_row w1 _ 1 _ _ _ hrow); (have d2 := cell_of_row w1 _ 2 _ _ _ hrow); (have d3 := cell_of_row w1 _ 3 _ _ _ hrow); (have d4 := cell_of_row w1 _ 4 _ _ _ hrow); simp only [List.getElem?_toArray, List.getElem?_cons_zero, List.getElem?_cons_succ] at d0 d1 d2 d3 d4; clear hrow hb1 hr hw0)
      refine bodyPost_ret (v := .tuple #[zeroR, .int .i64 3]) (by simp [results, Try.results10, go_sem, d0, d1, d2, d3, d4, zeroR]) rfl ?_
      exact ⟨below_set5 (HB0.out.trans (HB3.out.mono (by omega))) (Nat.le_succ _) _ _ _ _ _, .inr (.inl ⟨HOK.out, hfu, rfl⟩)⟩
    · have hfb : decide (fuel > 20000) = false := by simpa using hfu
      have HF : Hid (∀ k, StepOK f k (itR f (runB f ag mem ans) k)) := Lib.hid (itR_ok HFW.out HPT.out.1 HPT.out.2 HSO.out)
      go_upto_block 1 with (go_at_call 14; rw [← hw0]; refine (begin_any _ A c B d f X cx nx ag Y cy ny mem Z cz nz ans (Hp.out.below HB0.out) (H.out.below HB0.out) (Hx.out.below HB0.out) hnx (Hy.out.below HB0.out) hny (Hz.out.below HB0.out) hnz HFW.out HAx.out hzb).mono ?_; rintro e w1 ⟨hb1, hor⟩; obtain ⟨_, p, m, n, h, rfl, hr, hn8⟩ := hor.resolve_left (fun h => h.1 HOK.out); have HR1 := Lib.hid hr; have HB1 := Lib.hid hb1; clear hb1 hr hw0)
      go_wp2_with fail
      go_loopw [31] (fun kv wr => ∃ (k : Nat) (h' : RunH) (n' : Nat), (k : Int) ≤ max fuel 0 ∧ kv = .int .i64 k ∧ RunAt wr w0.heap.size p m n' h' f (itR f (runB f ag mem ans) k) ∧ n' ≤ 8 + k ∧ Below w0.heap.size w0 wr) (fun kv _ => fuel.toNat - (intOf kv).toNat)
      case atStart => exact ⟨0, h, n, by omega, rfl, HR1.out, by omega, HB1.out⟩
      case round =>
        obtain ⟨k, h', n', hk, rfl, hr, hn', hb⟩ := hrel
        have HR := Lib.hid hr
        have HB := Lib.hid hb
        have hsz := hb.size
        clear hr hb
        have hk2 : k ≤ 20000 := by omega
        obtain ⟨S, hS⟩ : ∃ S, itR f (runB f ag mem ans) k = S := ⟨_, rfl⟩
        have HO := HF.out k
        have HSS := Lib.hid hS
        rw [hS] at HR HO
        have HOx := Lib.hid HO
        clear hS HO
        by_cases hlt : (k : Int) < fuel
        · have hlb : decide ((k : Int) < fuel) = true := by simpa using hlt
          by_cases hfin : S.fin = 0
          · have HST : Hid ((stepR f S).2 = true) := Lib.hid (by unfold stepR; rw [if_pos hfin])
            clear hfin
            go_wp2_with (go_at_call 17; refine (step_any _ w0.heap.size p m n' h' f S HR.out hsz HFW.out HPT.out.1 HPT.out.2 (HOx.out.w (by omega)) (by omega) (by have := HOx.out.ins; omega) (by have := HOx.out.steps; omega) HOx.out.block).mono ?_; rintro e w2 ⟨rfl, h2, n2, hr2, ht2, hn2⟩; rw [HST.out]; have HR2 := Lib.hid hr2; have HT2 := Lib.hid ht2; clear hr2 ht2)
            go_roundw
            case rel => exact ⟨k + 1, h2, n2, by omega, by go_num, (by show RunAt _ _ _ _ _ _ _ (stepR f (itR f (runB f ag mem ans) k)).1; rw [HSS.out]; exact HR2.out), by omega, HB.out.trans (HT2.out.toBelow HR.out hsz)⟩
            case measure => simp [intOf]; omega
          · have HST : Hid ((stepR f S) = (S, false)) := Lib.hid (stepR_stop hfin)
            have HEx : Hid (itR f (runB f ag mem ans) fuel.toNat = S) := Lib.hid (by
              have := itR_stop (f := f) (s := runB f ag mem ans) (k := k) (by rw [HSS.out]; exact hfin) (fuel.toNat - k)
              rw [HSS.out] at this
              rw [← this]; congr 1; omega)
            clear hfin
            go_upto_region 10 with (go_at_call 17; refine (step_any _ w0.heap.size p m n' h' f S HR.out hsz HFW.out HPT.out.1 HPT.out.2 (HOx.out.w (by omega)) (by omega) (by have := HOx.out.ins; omega) (by have := HOx.out.steps; omega) HOx.out.block).mono ?_; rintro e w2 ⟨rfl, h2, n2, hr2, ht2, hn2⟩; rw [HST.out] at hr2 ⊢; have HRx := Lib.hid hr2; have HBx : Hid (Below w0.heap.size w0 w2) := Lib.hid (HB.out.trans (ht2.toBelow HR.out hsz)); clear hr2 ht2)
            go_wp2_with (go_at_call 16; refine (result_any _ w0.heap.size p m _ _ f _ HRx.out (HOx.out.w (by omega)) HOx.out.data.args).mono ?_; rintro e w3 ⟨C, cc, M, mc, rfl, hb3, hm3, hq3⟩; have HM3 := Lib.hid hm3; have HQ3 := Lib.hid hq3; clear hm3 hq3; have HB3 : Hid (Below w0.heap.size w0 w3) := Lib.hid (HBx.out.trans (hb3.mono HBx.out.size)); have hrow := HROW.out _ HB3.out; have z0 := frozen_of_row w3 _ 0 _ _ hrow; have z1 := frozen_of_row w3 _ 1 _ _ hrow; have z2 := frozen_of_row w3 _ 2 _ _ hrow; have z3 := frozen_of_row w3 _ 3 _ _ hrow; have z4 := frozen_of_row w3 _ 4 _ _ hrow; (have d0 := cell_of_row w3 _ 0 _ _ _ hrow); (have d1 := cell_of_row w3 _ 1 _ _ _ hrow); (have d2 := cell_of_row w3 _ 2 _ _ _ hrow); (have d3 := cell_of_row w3 _ 3 _ _ _ hrow); (have d4 := cell_of_row w3 _ 4 _ _ _ hrow); simp only [List.getElem?_toArray, List.getElem?_cons_zero, List.getElem?_cons_succ] at d0 d1 d2 d3 d4; clear hrow hb3; unfold resV)
            refine bodyPost_ret (v := .tuple #[resV S C cc M mc, .int .i64 0]) (by simp [results, Try.results10, go_sem, d0, d1, d2, d3, d4, resV]) rfl ?_
            exact ⟨below_set5 (HB0.out.trans (HB3.out.mono (by omega))) (Nat.le_succ _) _ _ _ _ _, .inr (.inr ⟨HOK.out, by omega, C, cc, M, mc, by rw [HEx.out], by rw [HEx.out]; exact (HM3.out.keep (keep5 _ (fun b hb => by have := HBx.out.size; omega) _ _ _ _ _)).imp (fun b _ hb => by have := HBx.out.size; show w.heap.size ≤ b; omega), by rw [HEx.out]; exact (HQ3.out.keep (keep5 _ (fun b hb => by have := HBx.out.size; omega) _ _ _ _ _)).imp (fun b _ hb => by have := HBx.out.size; show w.heap.size ≤ b; omega)⟩)⟩
        · have hlb : decide ((k : Int) < fuel) = false := by simpa using hlt
          have HRx := HR
          have HBx := HB
          have HEx : Hid (itR f (runB f ag mem ans) fuel.toNat = S) := Lib.hid (by
            rw [← HSS.out]; congr 1; omega)
          go_wp2_with (go_at_call 16; refine (result_any _ w0.heap.size p m _ _ f _ HRx.out (HOx.out.w (by omega)) HOx.out.data.args).mono ?_; rintro e w3 ⟨C, cc, M, mc, rfl, hb3, hm3, hq3⟩; have HM3 := Lib.hid hm3; have HQ3 := Lib.hid hq3; clear hm3 hq3; have HB3 : Hid (Below w0.heap.size w0 w3) := Lib.hid (HBx.out.trans (hb3.mono HBx.out.size)); have hrow := HROW.out _ HB3.out; have z0 := frozen_of_row w3 _ 0 _ _ hrow; have z1 := frozen_of_row w3 _ 1 _ _ hrow; have z2 := frozen_of_row w3 _ 2 _ _ hrow; have z3 := frozen_of_row w3 _ 3 _ _ hrow; have z4 := frozen_of_row w3 _ 4 _ _ hrow; (have d0 := cell_of_row w3 _ 0 _ _ _ hrow); (have d1 := cell_of_row w3 _ 1 _ _ _ hrow); (have d2 := cell_of_row w3 _ 2 _ _ _ hrow); (have d3 := cell_of_row w3 _ 3 _ _ _ hrow); (have d4 := cell_of_row w3 _ 4 _ _ _ hrow); simp only [List.getElem?_toArray, List.getElem?_cons_zero, List.getElem?_cons_succ] at d0 d1 d2 d3 d4; clear hrow hb3; unfold resV)
          refine bodyPost_ret (v := .tuple #[resV S C cc M mc, .int .i64 0]) (by simp [results, Try.results10, go_sem, d0, d1, d2, d3, d4, resV]) rfl ?_
          exact ⟨below_set5 (HB0.out.trans (HB3.out.mono (by omega))) (Nat.le_succ _) _ _ _ _ _, .inr (.inr ⟨HOK.out, by omega, C, cc, M, mc, by rw [HEx.out], by rw [HEx.out]; exact (HM3.out.keep (keep5 _ (fun b hb => by have := HBx.out.size; omega) _ _ _ _ _)).imp (fun b _ hb => by have := HBx.out.size; show w.heap.size ≤ b; omega), by rw [HEx.out]; exact (HQ3.out.keep (keep5 _ (fun b hb => by have := HBx.out.size; omega) _ _ _ _ _)).imp (fun b _ hb => by have := HBx.out.size; show w.heap.size ≤ b; omega)⟩)⟩
  · have HN := Lib.hid hok
    go_wp2_with (go_at_call 14; rw [← hw0]; refine (begin_any _ A c B d f X cx nx ag Y cy ny mem Z cz nz ans (Hp.out.below HB0.out) (H.out.below HB0.out) (Hx.out.below HB0.out) hnx (Hy.out.below HB0.out) hny (Hz.out.below HB0.out) hnz HFW.out HAx.out hzb).mono ?_; rintro e w1 ⟨hb1, hor⟩; obtain ⟨_, rfl⟩ := hor.resolve_right (fun h => HN.out h.1); have HB3 := Lib.hid hb1; have hrow := HROW.out _ HB3.out; have z0 := frozen_of_row w1 _ 0 _ _ hrow; have z1 := frozen_of_row w1 _ 1 _ _ hrow; have z2 := frozen_of_row w1 _ 2 _ _ hrow; have z3 := frozen_of_row w1 _ 3 _ _ hrow; have z4 := frozen_of_row w1 _ 4 _ _ hrow; (have d0 := cell_of_row w1 _ 0 _ _ _ hrow); (have d1 := cell_of_row w1 _ 1 _ _ _ hrow); (have d2 := cell_of_row w1 _ 2 _ _ _ hrow); (have d3 := cell_of_row w1 _ 3 _ _ _ hrow); (have d4 := cell_of_row w1 _ 4 _ _ _ hrow); simp only [List.getElem?_toArray, List.getElem?_cons_zero, List.getElem?_cons_succ] at d0 d1 d2 d3 d4; clear hrow hb1 hw0)
    refine bodyPost_ret (v := .tuple #[zeroR, .int .i64 2]) (by simp [results, Try.results10, go_sem, d0, d1, d2, d3, d4, zeroR]) rfl ?_
    exact ⟨below_set5 (HB0.out.trans (HB3.out.mono (by omega))) (Nat.le_succ _) _ _ _ _ _, .inl ⟨HN.out, rfl⟩⟩
end Go.Proofs.Ytnbmmfkkjceehaa
