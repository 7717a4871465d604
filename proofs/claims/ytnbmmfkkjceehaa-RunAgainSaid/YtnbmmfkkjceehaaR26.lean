/- The walk of the statement RunAgain. UNDER WAY: holds a sorry. -/
import Derived.Test.YtnbmmfkkjceehaaR25
namespace Go.Proofs.Ytnbmmfkkjceehaa
set_option linter.unusedSimpArgs false
set_option linter.unusedVariables false
open Go.RowKit

theorem RCalls.take {w : World} {A : Option Addr} {c : Nat} {l : List CallD} (h : RCalls w A c l) (n : Nat) : RCalls w A c (l.take n) :=
  ⟨by have := h.cap; simp; omega, h.nil, fun j x hj => h.get j x (by
    rw [List.getElem?_take] at hj
    split at hj
    · exact hj
    · cases hj)⟩
theorem quiet_dn {P : Program} {f : FuncId} {args : Array Value} {w : World} {n : Nat} {b : Bool} (h : Calls P f args (w.drewN n) (RetDn b (w.drewN n))) (hb : b = true) :
    Calls P f args (w.drewN n) fun e w'' => e = .returned (.bool true) ∧ ∃ m, w'' = w.drewN m :=
  Calls.quiet_of (h.mono fun _ _ hh => by subst hb; exact hh)
set_option maxRecDepth 100000 in
set_option maxHeartbeats 16000000 in
theorem runAgain_any (w : World) (A : Option Addr) (c : Nat) (B : Option Addr) (d : Nat) (f : FnD) (X : Option Addr) (cx nx : Nat) (ag : List Int) (Y : Option Addr) (cy ny : Nat) (mem : List Int) (Z : Option Addr) (cz nz : Nat) (ans : List Int) (fuel pick : Int)
    (hp : RI w A c f.params) (h : RBlk w B d f.blocks) (hx : RI w X cx ag) (hnx : ag.length = nx) (hy : RI w Y cy mem) (hny : mem.length = ny) (hz : RI w Z cz ans) (hnz : ans.length = nz) (hfw : FnW f) (hax : ∀ v ∈ ag, okI v) (ham : ∀ v ∈ mem, okI v) (han : ∀ v ∈ ans, okI v) (hpk : wfI pick) :
    Calls Try.prog 4 #[fnV A c B d f, .slice X nx cx, .slice Y ny cy, .slice Z nz cz, .int .i64 fuel, .int .i64 pick] w (RetBb true w) := by
  subst hnx hny hnz
  have hxb := hx.big
  have hyb := hy.big
  have hzb := hz.big
  have H := Lib.hid h
  have Hp := Lib.hid hp
  have Hx := Lib.hid hx
  have Hy := Lib.hid hy
  have Hz := Lib.hid hz
  have HFW := Lib.hid hfw
  have HAx := Lib.hid hax
  have HAm := Lib.hid ham
  have HAn := Lib.hid han
  clear h hp hx hy hz hfw hax ham han
  simp only [fnV]
  go_enter Try.func4, Try.ntmps4
  obtain ⟨w0, hw0⟩ : ∃ w0 : World, w0 = w.alloc (.cells #[.slice A f.params.length c, .slice B f.blocks.length d] 30) := ⟨_, rfl⟩
  have HK : Hid (∀ wr, Below (w.heap.size + 1) w0 wr → wr.cell? ⟨w.heap.size, 0, none⟩ = some (.slice A f.params.length c) ∧ wr.cell? ⟨w.heap.size, 1, none⟩ = some (.slice B f.blocks.length d)) := Lib.hid (fun wr hb => by
    subst hw0
    have d0 := hb.cell (p := ⟨w.heap.size, 0, none⟩) (by simp)
    have d1 := hb.cell (p := ⟨w.heap.size, 1, none⟩) (by simp)
    simp only [World.cell?_alloc_new, List.getElem?_toArray, List.getElem?_cons_zero, List.getElem?_cons_succ] at d0 d1
    exact ⟨d0, d1⟩)
  have hz0 : w0.heap.size = w.heap.size + 1 := by rw [hw0]; simp
  have Hz0 := Lib.hid hz0
  have HW0 : Hid (Below w.heap.size w w0) := Lib.hid (by rw [hw0]; go_grown)
  clear hz0
  by_cases hfu : 2000 < fuel
  · go_wp2_with (first
      | (go_at_call 8; rw [← hw0]; clear hw0; refine (awake_any _).mono ?_; rintro e w1 ⟨rfl, hb⟩; have HX1 : Hid (Below (w.heap.size + 1) w0 w1) := Lib.hid (by rw [← Hz0.out]; exact hb); obtain ⟨d0, d1⟩ := HK.out _ HX1.out; clear hb)
      | (go_at_call 9; refine (funcOf_any _ A c B d f 700 (by omega) (by omega) (Hp.out.below (HW0.out.trans (HX1.out.mono (by omega)))) (H.out.below (HW0.out.trans (HX1.out.mono (by omega))))).mono ?_; rintro e w2 ⟨n, rfl, hn0, hn1, _, hb⟩; have HX2 : Hid (Below (w.heap.size + 1) w0 w2) := Lib.hid (HX1.out.trans (hb.mono (by have := HX1.out.size; have := Hz0.out; omega))); clear d0 d1 hb; have hw1 : IntKind.i64.wrap (n + ag.length) = n + ag.length := IntWalk.i64_in _ (by omega); have hw2 : IntKind.i64.wrap (n + ag.length + mem.length) = n + ag.length + mem.length := IntWalk.i64_in _ (by omega); have hw3 : IntKind.i64.wrap (n + ag.length + mem.length + ans.length) = n + ag.length + mem.length + ans.length := IntWalk.i64_in _ (by omega); by_cases hs : 700 < n + ag.length + mem.length + ans.length))
    all_goals go_ret; exact ⟨rfl, HW0.out.trans (HX2.out.mono (by omega))⟩
  by_cases hfn : fuel < 0
  · go_wp2_with (first
      | (go_at_call 8; rw [← hw0]; clear hw0; refine (awake_any _).mono ?_; rintro e w1 ⟨rfl, hb⟩; have HX1 : Hid (Below (w.heap.size + 1) w0 w1) := Lib.hid (by rw [← Hz0.out]; exact hb); obtain ⟨d0, d1⟩ := HK.out _ HX1.out; clear hb)
      | (go_at_call 9; refine (funcOf_any _ A c B d f 700 (by omega) (by omega) (Hp.out.below (HW0.out.trans (HX1.out.mono (by omega)))) (H.out.below (HW0.out.trans (HX1.out.mono (by omega))))).mono ?_; rintro e w2 ⟨n, rfl, hn0, hn1, _, hb⟩; have HX2 : Hid (Below (w.heap.size + 1) w0 w2) := Lib.hid (HX1.out.trans (hb.mono (by have := HX1.out.size; have := Hz0.out; omega))); clear d0 d1 hb; have hw1 : IntKind.i64.wrap (n + ag.length) = n + ag.length := IntWalk.i64_in _ (by omega); have hw2 : IntKind.i64.wrap (n + ag.length + mem.length) = n + ag.length + mem.length := IntWalk.i64_in _ (by omega); have hw3 : IntKind.i64.wrap (n + ag.length + mem.length + ans.length) = n + ag.length + mem.length + ans.length := IntWalk.i64_in _ (by omega); by_cases hs : 700 < n + ag.length + mem.length + ans.length))
    all_goals go_ret; exact ⟨rfl, HW0.out.trans (HX2.out.mono (by omega))⟩
  by_cases hok : BeginOK f ag mem
  · have HOK := Lib.hid hok
    obtain ⟨S1, hS1⟩ : ∃ S, itR f (runB f ag mem ans) fuel.toNat = S := ⟨_, rfl⟩
    obtain ⟨q, hq⟩ : ∃ q, pickI pick (fuel + 1) = q := ⟨_, rfl⟩
    have hq0 : 0 ≤ q ∧ q ≤ fuel := by
      unfold pickI at hq
      rw [if_neg (by omega)] at hq
      have h1 := Int.emod_nonneg pick (show fuel + 1 ≠ 0 by omega)
      have h2 := Int.emod_lt_of_pos pick (show 0 < fuel + 1 by omega)
      omega
    obtain ⟨S2, hS2⟩ : ∃ S, itR f (runB f ag mem ans) q.toNat = S := ⟨_, rfl⟩
    have HS1 := Lib.hid hS1
    have HS2 := Lib.hid hS2
    have HQ := Lib.hid hq
    have hw4 : IntKind.i64.wrap (fuel + 1) = fuel + 1 := IntWalk.i64_in _ (by omega)
    clear hS1 hS2 hq hok
    go_wp2_with (first
      | (go_at_call 8; rw [← hw0]; clear hw0; refine (awake_any _).mono ?_; rintro e w1 ⟨rfl, hb⟩; have HX1 : Hid (Below (w.heap.size + 1) w0 w1) := Lib.hid (by rw [← Hz0.out]; exact hb); obtain ⟨d0, d1⟩ := HK.out _ HX1.out; clear hb)
      | (go_at_call 9; refine (funcOf_any _ A c B d f 700 (by omega) (by omega) (Hp.out.below (HW0.out.trans (HX1.out.mono (by omega)))) (H.out.below (HW0.out.trans (HX1.out.mono (by omega))))).mono ?_; rintro e w2 ⟨n, rfl, hn0, hn1, _, hb⟩; have HX2 : Hid (Below (w.heap.size + 1) w0 w2) := Lib.hid (HX1.out.trans (hb.mono (by have := HX1.out.size; have := Hz0.out; omega))); clear d0 d1 hb; obtain ⟨d0, d1⟩ := HK.out _ HX2.out; have hw1 : IntKind.i64.wrap (n + ag.length) = n + ag.length := IntWalk.i64_in _ (by omega); have hw2 : IntKind.i64.wrap (n + ag.length + mem.length) = n + ag.length + mem.length := IntWalk.i64_in _ (by omega); have hw3 : IntKind.i64.wrap (n + ag.length + mem.length + ans.length) = n + ag.length + mem.length + ans.length := IntWalk.i64_in _ (by omega); by_cases hs : 700 < n + ag.length + mem.length + ans.length))
    · go_ret; exact ⟨rfl, HW0.out.trans (HX2.out.mono (by omega))⟩
    · have hnb : ans.length ≤ 1000000 := by omega
      go_upto_region 6 with (go_at_call 10; refine (go_any _ A c B d f X cx _ ag Y cy _ mem Z cz _ ans fuel (Hp.out.below (HW0.out.trans (HX2.out.mono (by omega)))) (H.out.below (HW0.out.trans (HX2.out.mono (by omega)))) (Hx.out.below (HW0.out.trans (HX2.out.mono (by omega)))) rfl (Hy.out.below (HW0.out.trans (HX2.out.mono (by omega)))) rfl (Hz.out.below (HW0.out.trans (HX2.out.mono (by omega)))) rfl HFW.out HAx.out HAm.out HAn.out hnb).mono ?_; rintro e w3 ⟨hb, hor⟩; obtain ⟨_, _, C1, cc1, M1, mc1, rfl, hm, hq⟩ := (hor.resolve_left (fun h => h.1 HOK.out)).resolve_left (fun h => by have := h.2.1; omega); have HX3 : Hid (Below (w.heap.size + 1) w0 w3) := Lib.hid (HX2.out.trans (hb.mono (by have := HX2.out.size; have := Hz0.out; omega))); rw [HS1.out] at hm hq ⊢; have HM1 := Lib.hid hm; have HC1 := Lib.hid hq; clear d0 d1 hb hor hm hq; unfold resV)
      obtain ⟨W4, hW4⟩ : ∃ W4 : World, W4 = w3.alloc (.cells #[.int .i64 S1.fin, .int .i64 S1.value, .slice C1 S1.calls.length cc1, .slice M1 S1.mem.length mc1, .int .i64 S1.steps] 35) := ⟨_, rfl⟩
      rw [← hW4]
      have HX4 : Hid (Below (w.heap.size + 1) w0 W4) := Lib.hid (by rw [hW4]; exact HX3.out.alloc (by have := HX3.out.size; have := Hz0.out; omega) _)
      obtain ⟨d0, d1⟩ := HK.out _ HX4.out
      have hc4 : W4.heap[w3.heap.size]? = some (.cells #[.int .i64 S1.fin, .int .i64 S1.value, .slice C1 S1.calls.length cc1, .slice M1 S1.mem.length mc1, .int .i64 S1.steps] 35 (0, 0)) := by rw [hW4]; exact heap_alloc_new w3 _
      have HC4 := Lib.hid hc4
      have HB4 : Hid (Below w3.heap.size w3 W4) := Lib.hid (by rw [hW4]; exact (Below.refl _ _).alloc (Nat.le_refl _) _)
      clear hW4 hc4
      go_upto_region 8 with (first
        | (go_at_call 11; refine (pick_any pick (fuel + 1) _ hpk.1 hpk.2 (by omega)).mono ?_; rintro e w9 ⟨rfl, h9⟩; (have h8 : w9 = W4 := by first | exact h9 | exact h9.symm); rw [h8, HQ.out]; clear h8 h9)
        | (go_at_call 10; refine (go_any _ A c B d f X cx _ ag Y cy _ mem Z cz _ ans q (Hp.out.below (HW0.out.trans (HX4.out.mono (by omega)))) (H.out.below (HW0.out.trans (HX4.out.mono (by omega)))) (Hx.out.below (HW0.out.trans (HX4.out.mono (by omega)))) rfl (Hy.out.below (HW0.out.trans (HX4.out.mono (by omega)))) rfl (Hz.out.below (HW0.out.trans (HX4.out.mono (by omega)))) rfl HFW.out HAx.out HAm.out HAn.out hnb).mono ?_; rintro e w5 ⟨hb, hor⟩; have HB5 := Lib.hid hb; obtain ⟨_, _, C2, cc2, M2, mc2, rfl, hm, hq⟩ := (hor.resolve_left (fun h => h.1 HOK.out)).resolve_left (fun h => by have := h.2.1; omega); have HX5 : Hid (Below (w.heap.size + 1) w0 w5) := Lib.hid (HX4.out.trans (hb.mono (by have := HX4.out.size; have := Hz0.out; omega))); rw [HS2.out] at hm hq ⊢; have HM2 := Lib.hid hm; have HC2 := Lib.hid hq; clear d0 d1 hb hor hm hq; unfold resV))
      obtain ⟨W6, hW6⟩ : ∃ W6 : World, W6 = w5.alloc (.cells #[.int .i64 S2.fin, .int .i64 S2.value, .slice C2 S2.calls.length cc2, .slice M2 S2.mem.length mc2, .int .i64 S2.steps] 35) := ⟨_, rfl⟩
      rw [← hW6]
      have HX6 : Hid (Below (w.heap.size + 1) w0 W6) := Lib.hid (by rw [hW6]; exact HX5.out.alloc (by have := HX5.out.size; have := Hz0.out; omega) _)
      have hc6 : W6.heap[w5.heap.size]? = some (.cells #[.int .i64 S2.fin, .int .i64 S2.value, .slice C2 S2.calls.length cc2, .slice M2 S2.mem.length mc2, .int .i64 S2.steps] 35 (0, 0)) := by rw [hW6]; exact heap_alloc_new w5 _
      have HC6 := Lib.hid hc6
      have HB6 : Hid (Below w5.heap.size w5 W6) := Lib.hid (by rw [hW6]; exact (Below.refl _ _).alloc (Nat.le_refl _) _)
      have HB46 : Hid (Below W4.heap.size W4 W6) := Lib.hid (HB5.out.trans (HB6.out.mono HB5.out.size))
      have hc46 : W6.heap[w3.heap.size]? = some (.cells #[.int .i64 S1.fin, .int .i64 S1.value, .slice C1 S1.calls.length cc1, .slice M1 S1.mem.length mc1, .int .i64 S1.steps] 35 (0, 0)) := (HB46.out.block _ (lt_of_block HC4.out)).trans HC4.out
      have a0 : W6.cell? ⟨w3.heap.size, 0, none⟩ = some (.int .i64 S1.fin) := by rw [cell_of_row W6 _ 0 _ _ _ hc46]; rfl
      have a2 : W6.cell? ⟨w3.heap.size, 2, none⟩ = some (.slice C1 S1.calls.length cc1) := by rw [cell_of_row W6 _ 2 _ _ _ hc46]; rfl
      have a4 : W6.cell? ⟨w3.heap.size, 4, none⟩ = some (.int .i64 S1.steps) := by rw [cell_of_row W6 _ 4 _ _ _ hc46]; rfl
      have b0 : W6.cell? ⟨w5.heap.size, 0, none⟩ = some (.int .i64 S2.fin) := by rw [cell_of_row W6 _ 0 _ _ _ hc6]; rfl
      have b2 : W6.cell? ⟨w5.heap.size, 2, none⟩ = some (.slice C2 S2.calls.length cc2) := by rw [cell_of_row W6 _ 2 _ _ _ hc6]; rfl
      have b4 : W6.cell? ⟨w5.heap.size, 4, none⟩ = some (.int .i64 S2.steps) := by rw [cell_of_row W6 _ 4 _ _ _ hc6]; rfl
      clear hW6 hc6 hc46
      go_upto_region 10 with fail
      have HOK1 := Lib.hid (itR_ok HFW.out HOK.out.parts.1 HOK.out.parts.2 (begin_ok HOK.out HAx.out HAm.out HAn.out))
      have hpre : S2.calls <+: S1.calls := by
        have := itR_calls f (runB f ag mem ans) q.toNat (fuel.toNat - q.toNat)
        rw [HS2.out, show q.toNat + (fuel.toNat - q.toNat) = fuel.toNat by omega, HS1.out] at this
        exact this
      have hlen1 : S1.calls.length ≤ 2000 := by have := (HOK1.out fuel.toNat).data.calls; rw [HS1.out] at this; omega
      have hlen2 : S2.calls.length ≤ S1.calls.length := hpre.length_le
      have hst : S1.steps ≤ fuel.toNat := by have := (itR_steps f (runB f ag mem ans) rfl fuel.toNat).1; rwa [HS1.out] at this
      have HTK : Hid (S2.calls = S1.calls.take S2.calls.length) := Lib.hid (List.prefix_iff_eq_take.1 hpre)
      have HCa : Hid (RCalls W6 C1 cc1 (S1.calls.take S2.calls.length)) := Lib.hid (((HC1.out.r.below HB4.out).below HB46.out).take _)
      have HCb : Hid (RCalls W6 C2 cc2 S2.calls) := Lib.hid (HC2.out.r.below HB6.out)
      have hcap : S1.calls.length ≤ cc1 := HC1.out.cap
      clear hpre
      obtain ⟨s1, hs1⟩ : ∃ s : Int, (S1.steps : Int) = s := ⟨_, rfl⟩
      obtain ⟨s2, hs2⟩ : ∃ s : Int, (S2.steps : Int) = s := ⟨_, rfl⟩
      obtain ⟨e1, he1⟩ : ∃ s : Int, S1.fin = s := ⟨_, rfl⟩
      obtain ⟨e2, he2⟩ : ∃ s : Int, S2.fin = s := ⟨_, rfl⟩
      have hA : decide (s2 > s1) = false ∧ decide (s1 > fuel) = false ∧ (((e2 != 0) = false ∧ decide (s1 < q) = false ∧ (s2 != q) = false ∧ decide (s1 ≥ q) = true) ∨ ((e2 != 0) = true ∧ (e2 != e1) = false ∧ ((decide (s1 < q) = true ∧ (s2 != s1) = false ∧ decide (s1 ≥ q) = false) ∨ (decide (s1 < q) = false ∧ (s2 != q) = false ∧ decide (s1 ≥ q) = true)))) := by
        by_cases hlate : s1 < q
        · have e : S2 = S1 := by
            have := itR_late (f := f) (s := runB f ag mem ans) rfl (j := q.toNat) (k := fuel.toNat) (by omega) (by rw [HS1.out]; omega)
            rwa [HS1.out, HS2.out] at this
          rw [e] at hs2 he2
          rw [hs1] at hs2
          rw [he1] at he2
          subst hs2 he2
          have h0 : e1 ≠ 0 := fun h => by
            have := (itR_steps f (runB f ag mem ans) rfl fuel.toNat).2.2 (by rw [HS1.out, he1]; exact h)
            rw [HS1.out] at this; omega
          exact ⟨by simp, by simp; omega, .inr ⟨by simpa using h0, by simp, .inl ⟨by simpa using hlate, by simp, by simpa using hlate⟩⟩⟩
        · have h2 : S2.steps = q.toNat := by
            have := itR_early (f := f) (s := runB f ag mem ans) rfl (j := q.toNat) (k := fuel.toNat) (by omega) (by rw [HS1.out]; omega)
            rwa [HS2.out] at this
          have k4 : decide (s1 < q) = false := by simp; omega
          have k5 : (s2 != q) = false := by simp; omega
          have k6 : decide (s1 ≥ q) = true := by simp; omega
          refine ⟨by simp; omega, by simp; omega, ?_⟩
          by_cases h0 : e2 = 0
          · exact .inl ⟨by simp [h0], k4, k5, k6⟩
          · have e : S1 = S2 := by
              have := itR_stop (f := f) (s := runB f ag mem ans) (k := q.toNat) (by rw [HS2.out, he2]; exact h0) (fuel.toNat - q.toNat)
              rw [show q.toNat + (fuel.toNat - q.toNat) = fuel.toNat by omega, HS1.out, HS2.out] at this
              exact this
            rw [e, he2] at he1
            exact .inr ⟨by simpa using h0, by simp [he1], .inr ⟨k4, k5, k6⟩⟩
      rw [hs1] at a4
      rw [hs2] at b4
      rw [he1] at a0
      rw [he2] at b0
      have Hs1 := Lib.hid hs1
      have Hs2 := Lib.hid hs2
      have He1 := Lib.hid he1
      have He2 := Lib.hid he2
      clear hs1 hs2 he1 he2
      obtain ⟨k1, k2, hj⟩ := hA
      have HJ := Lib.hid hj
      clear hj
      have k3 : decide ((S2.calls.length : Int) > (S1.calls.length : Int)) = false := by simp; omega
      have k3' : decide (S1.calls.length < S2.calls.length) = false := by simp; omega
      have hcap2 : S2.calls.length ≤ cc1 := by omega
      have hL1 : Hid ((S1.calls.take S2.calls.length).length = S2.calls.length) := Lib.hid (by simp; omega)
      have hL2 : Hid (S2.calls.length ≤ 1000000) := Lib.hid (by omega)
      have hL3 : Hid ((S1.calls.take S2.calls.length).length ≤ 1000000) := Lib.hid (by simp; omega)
      have HL4 : Hid (decide (S2.calls = S1.calls.take S2.calls.length) = true) := Lib.hid (by rw [← HTK.out]; exact decide_eq_true rfl)
      have Hhs := Lib.hid hs
      have Hhn := Lib.hid hn0
      have Hst := Lib.hid hst
      clear hw1 hw2 hw3 hs hn0 hn1 hst
      go_cut [145] from 77 to 145 (fun v wc => v = .bool false ∧ Hid (∃ j, wc = W6.drewN j))
      case first =>
        have hcl : True := trivial
        clear hxb hyb hzb hq0 hpk hw4 hfu hfn hnb hlen1 hlen2 hcap
        refine wp_region_quiet_lit (by kernel_rfl) (by kernel_rfl) ?_
        iterate 35 (quiet_step (((go_at_call 12; exact quiet_dn (sameCalls_any _ C2 cc2 _ S2.calls C1 cc1 _ (S1.calls.take S2.calls.length) (HCb.out.below (below_dn (Below.refl _ _) _)) rfl (HCa.out.below (below_dn (Below.refl _ _) _)) hL1.out hL2.out hL3.out) HL4.out))))
        rcases HJ.out with ⟨k0, k4, k5, k6⟩ | ⟨k0, k7, hk⟩
        rotate_left
        · have HK2 := Lib.hid hk
          clear hk
          iterate 10 (quiet_step (fail))
          rcases HK2.out with ⟨k4, k5, k6⟩ | ⟨k4, k5, k6⟩
          all_goals
            repeat (quiet_step (fail))
            refine wpQuiet_nil ?_
            intro _ hw'
            obtain ⟨nq, hw'⟩ := hw'
            subst hw'
            go_wp2_with fail
            go_meet
            case rel => exact ⟨rfl, Lib.hid ⟨_, rfl⟩⟩
        · repeat (quiet_step (fail))
          refine wpQuiet_nil ?_
          intro _ hw'
          obtain ⟨nq, hw'⟩ := hw'
          subst hw'
          go_wp2_with fail
          go_meet
          case rel => exact ⟨rfl, Lib.hid ⟨_, rfl⟩⟩
      case rest =>
        obtain ⟨rfl, HDN⟩ := hcut
        have HB67 : Hid (Below W6.heap.size W6 wc) := Lib.hid (dn_below HDN.out)
        have HX7 : Hid (Below (w.heap.size + 1) w0 wc) := Lib.hid (HX6.out.trans (HB67.out.mono (by have := HX6.out.size; have := Hz0.out; omega)))
        have HB47 : Hid (Below W4.heap.size W4 wc) := Lib.hid (HB46.out.trans (HB67.out.mono HB46.out.size))
        have HKA : Hid (∀ wr, Below W4.heap.size W4 wr → wr.cell? ⟨w3.heap.size, 0, none⟩ = some (.int .i64 e1) ∧ wr.cell? ⟨w3.heap.size, 1, none⟩ = some (.int .i64 S1.value) ∧ wr.cell? ⟨w3.heap.size, 2, none⟩ = some (.slice C1 S1.calls.length cc1) ∧ wr.cell? ⟨w3.heap.size, 3, none⟩ = some (.slice M1 S1.mem.length mc1) ∧ wr.cell? ⟨w3.heap.size, 4, none⟩ = some (.int .i64 s1)) := Lib.hid (fun wr hb => by
          have hc : wr.heap[w3.heap.size]? = _ := (hb.block _ (lt_of_block HC4.out)).trans HC4.out
          refine ⟨?_, ?_, ?_, ?_, ?_⟩
          · rw [cell_of_row wr _ 0 _ _ _ hc, ← He1.out]; rfl
          · rw [cell_of_row wr _ 1 _ _ _ hc]; rfl
          · rw [cell_of_row wr _ 2 _ _ _ hc]; rfl
          · rw [cell_of_row wr _ 3 _ _ _ hc]; rfl
          · rw [cell_of_row wr _ 4 _ _ _ hc, ← Hs1.out]; rfl)
        have HS1s : Hid (itR f (runB f ag mem ans) s1.toNat = S1) := Lib.hid (by
          have := (itR_steps f (runB f ag mem ans) rfl fuel.toNat).2.1
          rw [HS1.out] at this
          rw [← Hs1.out]; exact this)
        have hs1b : s1 ≤ 20000 := by have := Hs1.out; have := Hst.out; omega
        obtain ⟨d0, d1⟩ := HK.out _ HX7.out
        obtain ⟨a0, a1, a2, a3, a4⟩ := HKA.out _ HB47.out
        clear b0 b2 b4 k1 k2 k3 k3'
        go_upto_region 13 with (go_at_call 10; refine (go_any _ A c B d f X cx _ ag Y cy _ mem Z cz _ ans s1 (Hp.out.below (HW0.out.trans (HX7.out.mono (by omega)))) (H.out.below (HW0.out.trans (HX7.out.mono (by omega)))) (Hx.out.below (HW0.out.trans (HX7.out.mono (by omega)))) rfl (Hy.out.below (HW0.out.trans (HX7.out.mono (by omega)))) rfl (Hz.out.below (HW0.out.trans (HX7.out.mono (by omega)))) rfl HFW.out HAx.out HAm.out HAn.out hnb).mono ?_; rintro e w7 ⟨hb, hor⟩; obtain ⟨_, _, C3, cc3, M3, mc3, rfl, hm, hq⟩ := (hor.resolve_left (fun h => h.1 HOK.out)).resolve_left (fun h => by have := h.2.1; omega); have HX8 : Hid (Below (w.heap.size + 1) w0 w7) := Lib.hid (HX7.out.trans (hb.mono (by have := HX7.out.size; have := Hz0.out; omega))); have HB48 : Hid (Below W4.heap.size W4 w7) := Lib.hid (HB47.out.trans (hb.mono HB47.out.size)); rw [HS1s.out] at hm hq ⊢; have HM3 := Lib.hid hm; have HC3 := Lib.hid hq; clear d0 d1 hb hor hm hq a0 a1 a2 a3 a4; unfold resV)
        obtain ⟨W8, hW8⟩ : ∃ W8 : World, W8 = w7.alloc (.cells #[.int .i64 S1.fin, .int .i64 S1.value, .slice C3 S1.calls.length cc3, .slice M3 S1.mem.length mc3, .int .i64 S1.steps] 35) := ⟨_, rfl⟩
        rw [← hW8]
        have HX9 : Hid (Below (w.heap.size + 1) w0 W8) := Lib.hid (by rw [hW8]; exact HX8.out.alloc (by have := HX8.out.size; have := Hz0.out; omega) _)
        have hc8 : W8.heap[w7.heap.size]? = some (.cells #[.int .i64 S1.fin, .int .i64 S1.value, .slice C3 S1.calls.length cc3, .slice M3 S1.mem.length mc3, .int .i64 S1.steps] 35 (0, 0)) := by rw [hW8]; exact heap_alloc_new w7 _
        have HC8 := Lib.hid hc8
        have HB78 : Hid (Below w7.heap.size w7 W8) := Lib.hid (by rw [hW8]; exact (Below.refl _ _).alloc (Nat.le_refl _) _)
        clear hW8 hc8
        obtain ⟨more, hmore⟩ : ∃ l : List Int, [] ++ ans ++ [5, 6] = l := ⟨_, rfl⟩
        have hlm : more.length ≤ 1000000 := by rw [← hmore]; simp; omega
        have HAM : Hid (∀ v ∈ more, okI v) := Lib.hid (fun v hv => by
          rw [← hmore] at hv
          simp only [List.nil_append, List.mem_append, List.mem_cons, List.not_mem_nil, or_false] at hv
          rcases hv with hv | rfl | rfl
          · exact HAn.out v hv
          · exact okI_num 5 (by omega) (by omega)
          · exact okI_num 6 (by omega) (by omega))
        have HMORE := Lib.hid hmore
        clear hmore
        go_upto_region 14 with (first
          | (at_builtin; refine wpList_append_ints rfl (.tmp 156) (.tmp 157) 27 rfl W8.heap.size 3 Try.underlying27 Try.info3 _ [] rfl (World.ownsRow_made W8 #[] 0 (Nat.le_refl _) (Nat.zero_le _) rfl) Z cz _ ans rfl rfl ((Hz.out.below (HW0.out.trans (HX9.out.mono (by omega)))).below (by go_grown)) (by simp; omega) (by simp) ?_; intro v9 w9 hown9 hgrow9; (have HB89 : Hid (Below W8.heap.size W8 w9) := Lib.hid (((Below.refl _ _).alloc (Nat.le_refl _) _).grown hgrow9 (by simp) (fun k hk => Nat.le_of_eq (Option.some.inj hk)))); have HO9 := Lib.hid hown9; clear hown9 hgrow9)
          | (at_builtin; refine wpList_append_ints rfl (.tmp 158) (.tmp 159) 27 rfl W8.heap.size 3 Try.underlying27 Try.info3 _ ([] ++ ans) rfl (ownsRow_below HO9.out ((Below.refl _ _).alloc (Nat.le_refl _) _)) _ 2 _ [5, 6] rfl rfl (RI.two (by simp) (by simp [go_sem]) (by simp [go_sem])) (by simp; omega) (by have := HB89.out.size; simp; omega) ?_; intro v10 w10 hown10 hgrow10; rw [HMORE.out] at hown10; (have HB810 : Hid (Below W8.heap.size W8 w10) := Lib.hid ((HB89.out.alloc HB89.out.size _).grown hgrow10 (by have := HB89.out.size; simp; omega) (fun k hk => (HO9.out.lt k hk).1))); obtain ⟨A10, c10, rfl, hri10, _⟩ := ownsRow_RI_base hown10 (by omega); have HRM := Lib.hid hri10; clear hown10 hgrow10 hri10))
        have HX10 : Hid (Below (w.heap.size + 1) w0 w10) := Lib.hid (HX9.out.trans (HB810.out.mono (by have := HX9.out.size; have := Hz0.out; omega)))
        have HB410 : Hid (Below W4.heap.size W4 w10) := Lib.hid (HB48.out.trans ((HB78.out.trans (HB810.out.mono HB78.out.size)).mono HB48.out.size))
        obtain ⟨S4, hS4⟩ : ∃ S, itR f (runB f ag mem more) fuel.toNat = S := ⟨_, rfl⟩
        have HS4 := Lib.hid hS4
        clear hS4
        obtain ⟨d0, d1⟩ := HK.out _ HX10.out
        go_upto_region 15 with (go_at_call 10; refine (go_any _ A c B d f X cx _ ag Y cy _ mem A10 c10 _ more fuel (Hp.out.below (HW0.out.trans (HX10.out.mono (by omega)))) (H.out.below (HW0.out.trans (HX10.out.mono (by omega)))) (Hx.out.below (HW0.out.trans (HX10.out.mono (by omega)))) rfl (Hy.out.below (HW0.out.trans (HX10.out.mono (by omega)))) rfl HRM.out rfl HFW.out HAx.out HAm.out HAM.out hlm).mono ?_; rintro e w11 ⟨hb, hor⟩; obtain ⟨_, _, C4, cc4, M4, mc4, rfl, hm, hq⟩ := (hor.resolve_left (fun h => h.1 HOK.out)).resolve_left (fun h => by have := h.2.1; omega); have HX11 : Hid (Below (w.heap.size + 1) w0 w11) := Lib.hid (HX10.out.trans (hb.mono (by have := HX10.out.size; have := Hz0.out; omega))); have HBA : Hid (Below w10.heap.size w10 w11) := Lib.hid hb; rw [HS4.out] at hm hq ⊢; have HM4 := Lib.hid hm; have HC4q := Lib.hid hq; clear d0 d1 hb hor hm hq; unfold resV)
        obtain ⟨W12, hW12⟩ : ∃ W12 : World, W12 = w11.alloc (.cells #[.int .i64 S4.fin, .int .i64 S4.value, .slice C4 S4.calls.length cc4, .slice M4 S4.mem.length mc4, .int .i64 S4.steps] 35) := ⟨_, rfl⟩
        rw [← hW12]
        have HX12 : Hid (Below (w.heap.size + 1) w0 W12) := Lib.hid (by rw [hW12]; exact HX11.out.alloc (by have := HX11.out.size; have := Hz0.out; omega) _)
        have hc12 : W12.heap[w11.heap.size]? = some (.cells #[.int .i64 S4.fin, .int .i64 S4.value, .slice C4 S4.calls.length cc4, .slice M4 S4.mem.length mc4, .int .i64 S4.steps] 35 (0, 0)) := by rw [hW12]; exact heap_alloc_new w11 _
        have HC12 := Lib.hid hc12
        have HBB : Hid (Below w11.heap.size w11 W12) := Lib.hid (by rw [hW12]; exact (Below.refl _ _).alloc (Nat.le_refl _) _)
        clear hW12 hc12
        have HB1012 : Hid (Below w10.heap.size w10 W12) := Lib.hid (HBA.out.trans (HBB.out.mono HBA.out.size))
        have HB812 : Hid (Below W8.heap.size W8 W12) := Lib.hid (HB810.out.trans (HB1012.out.mono HB810.out.size))
        have HB412 : Hid (Below W4.heap.size W4 W12) := Lib.hid (HB410.out.trans (HB1012.out.mono HB410.out.size))
        have HKC : Hid (∀ wr, Below W8.heap.size W8 wr → wr.cell? ⟨w7.heap.size, 0, none⟩ = some (.int .i64 e1) ∧ wr.cell? ⟨w7.heap.size, 1, none⟩ = some (.int .i64 S1.value) ∧ wr.cell? ⟨w7.heap.size, 2, none⟩ = some (.slice C3 S1.calls.length cc3) ∧ wr.cell? ⟨w7.heap.size, 3, none⟩ = some (.slice M3 S1.mem.length mc3)) := Lib.hid (fun wr hb => by
          have hc : wr.heap[w7.heap.size]? = _ := (hb.block _ (lt_of_block HC8.out)).trans HC8.out
          refine ⟨?_, ?_, ?_, ?_⟩
          · rw [cell_of_row wr _ 0 _ _ _ hc, ← He1.out]; rfl
          · rw [cell_of_row wr _ 1 _ _ _ hc]; rfl
          · rw [cell_of_row wr _ 2 _ _ _ hc]; rfl
          · rw [cell_of_row wr _ 3 _ _ _ hc]; rfl)
        have HCx : Hid (RCalls W12 C1 cc1 S1.calls) := Lib.hid ((HC1.out.r.below HB4.out).below HB412.out)
        have HCy : Hid (RCalls W12 C3 cc3 S1.calls) := Lib.hid ((HC3.out.r.below HB78.out).below HB812.out)
        have HMx : Hid (RI W12 M1 mc1 S1.mem) := Lib.hid ((HM1.out.r.below HB4.out).below HB412.out)
        have HMy : Hid (RI W12 M3 mc3 S1.mem) := Lib.hid ((HM3.out.r.below HB78.out).below HB812.out)
        have HL1 : Hid (S1.calls.length ≤ 1000000) := Lib.hid (by omega)
        have HLq : Hid (decide (S1.calls = S1.calls) = true) := Lib.hid (decide_eq_true rfl)
        have HLm : Hid (decide (S1.mem = S1.mem) = true) := Lib.hid (decide_eq_true rfl)
        obtain ⟨v1, hv1⟩ : ∃ v, S1.value = v := ⟨_, rfl⟩
        obtain ⟨a0, a1, a2, a3, a4⟩ := HKA.out _ HB412.out
        obtain ⟨c0, c1, c2, c3⟩ := HKC.out _ HB812.out
        rw [hv1] at a1 c1
        have Hv1 := Lib.hid hv1
        clear hv1
        have q1 : (e1 != e1) = false := by simp
        have q2 : (v1 != v1) = false := by simp
        clear hq0 hpk hw4 hfu hfn hnb hlen1 hlen2 hcap hlm hs1b
        go_cut [197] from 170 to 197 (fun v wc => v = .bool false ∧ Hid (∃ j, wc = W12.drewN j))
        case first =>
          go_wp2_with (first
            | (go_at_call 12; refine (sameCalls_any _ C3 cc3 _ S1.calls C1 cc1 _ S1.calls HCy.out rfl HCx.out rfl HL1.out HL1.out).mono ?_; rintro e w' ⟨rfl, j2, rfl⟩; rw [decide_eq_true (show S1.calls = S1.calls from rfl)])
            | (go_at_call 13; refine (sameInts_any _ M3 mc3 _ S1.mem M1 mc1 _ S1.mem (HMy.out.below (below_dn (Below.refl _ _) _)) rfl (HMx.out.below (below_dn (Below.refl _ _) _)) rfl).mono ?_; rintro e w' ⟨rfl, j3, rfl⟩; rw [decide_eq_true (show S1.mem = S1.mem from rfl)]))
          go_meet
          case rel => exact ⟨rfl, Lib.hid ⟨_, by first | rfl | exact World.drewN_drewN _ _ _⟩⟩
        case rest =>
          obtain ⟨rfl, HDN2⟩ := hcut
          have HBc : Hid (Below W12.heap.size W12 wc) := Lib.hid (dn_below HDN2.out)
          have HX13 : Hid (Below (w.heap.size + 1) w0 wc) := Lib.hid (HX12.out.trans (HBc.out.mono (by have := HX12.out.size; have := Hz0.out; omega)))
          clear a0 a1 a2 a3 a4 c0 c1 c2 c3
          obtain ⟨a0, a1, a2, a3, a4⟩ := HKA.out _ (HB412.out.trans (HBc.out.mono HB412.out.size))
          rw [Hv1.out] at a1
          by_cases hN : ans.length < S1.calls.length
          · have hN1 : decide ((S1.calls.length : Int) > (ans.length : Int)) = true := by simp; omega
            have hN2 : decide (ans.length < S1.calls.length) = true := by simpa using hN
            clear hN
            go_wp2_with fail
            go_ret
            exact ⟨rfl, HW0.out.trans (HX13.out.mono (by omega))⟩
          · have hN1 : decide ((S1.calls.length : Int) > (ans.length : Int)) = false := by simp; omega
            have hN2 : decide (ans.length < S1.calls.length) = false := by simpa using hN
            have hE : S4 = ext [5, 6] S1 := by
              rcases itR_ext [5, 6] f (runB f ag mem ans) ans.length rfl fuel.toNat with h | h
              · rw [HS1.out] at h; exact absurd h hN
              · have h2 := h.1
                rw [← runB_ext, HS1.out] at h2
                have e2 := HMORE.out
                rw [List.nil_append] at e2
                rw [e2, HS4.out] at h2
                exact h2
            have hE0 : S4.fin = e1 := by rw [hE, ← He1.out]; rfl
            have hE1 : S4.value = v1 := by rw [hE, ← Hv1.out]; rfl
            have hE2 : S4.calls = S1.calls := by rw [hE]; rfl
            have hE3 : S4.mem = S1.mem := by rw [hE]; rfl
            have hE4 : (S4.steps : Int) = s1 := by rw [hE, ← Hs1.out]; rfl
            have hc := (HBc.out.block _ (lt_of_block HC12.out)).trans HC12.out
            rw [hE0, hE1, hE2, hE3, hE4] at hc
            have f0 : wc.cell? ⟨w11.heap.size, 0, none⟩ = some (.int .i64 e1) := by rw [cell_of_row wc _ 0 _ _ _ hc]; rfl
            have f1 : wc.cell? ⟨w11.heap.size, 1, none⟩ = some (.int .i64 v1) := by rw [cell_of_row wc _ 1 _ _ _ hc]; rfl
            have f2 : wc.cell? ⟨w11.heap.size, 2, none⟩ = some (.slice C4 S1.calls.length cc4) := by rw [cell_of_row wc _ 2 _ _ _ hc]; rfl
            have f3 : wc.cell? ⟨w11.heap.size, 3, none⟩ = some (.slice M4 S1.mem.length mc4) := by rw [cell_of_row wc _ 3 _ _ _ hc]; rfl
            have f4 : wc.cell? ⟨w11.heap.size, 4, none⟩ = some (.int .i64 s1) := by rw [cell_of_row wc _ 4 _ _ _ hc]; rfl
            have HCz : Hid (RCalls wc C4 cc4 S1.calls) := Lib.hid (by have := HC4q.out.r; rw [hE2] at this; exact (this.below HBB.out).below HBc.out)
            have HMz : Hid (RI wc M4 mc4 S1.mem) := Lib.hid (by have := HM4.out.r; rw [hE3] at this; exact (this.below HBB.out).below HBc.out)
            have HCw : Hid (RCalls wc C1 cc1 S1.calls) := Lib.hid (HCx.out.below HBc.out)
            have HMw : Hid (RI wc M1 mc1 S1.mem) := Lib.hid (HMx.out.below HBc.out)
            have r1 : (e1 == e1) = true := by simp
            have r2 : (v1 == v1) = true := by simp
            have r3 : (s1 == s1) = true := by simp
            clear hE hE0 hE1 hE2 hE3 hE4 hc hN q1 q2
            go_wp2_with (first
              | (go_at_call 12; refine (sameCalls_any _ C4 cc4 _ S1.calls C1 cc1 _ S1.calls HCz.out rfl HCw.out rfl HL1.out HL1.out).mono ?_; rintro e w' ⟨rfl, j2, rfl⟩; rw [decide_eq_true (show S1.calls = S1.calls from rfl)])
              | (go_at_call 13; refine (sameInts_any _ M4 mc4 _ S1.mem M1 mc1 _ S1.mem (HMz.out.below (below_dn (Below.refl _ _) _)) rfl (HMw.out.below (below_dn (Below.refl _ _) _)) rfl).mono ?_; rintro e w' ⟨rfl, j3, rfl⟩; rw [decide_eq_true (show S1.mem = S1.mem from rfl)]))
            go_ret
            have hfin : Below w.heap.size w wc := HW0.out.trans (HX13.out.mono (by omega))
            first
              | exact ⟨rfl, below_dn (below_dn hfin _) _⟩
              | exact ⟨rfl, below_dn hfin _⟩
  · go_wp2_with (first
      | (go_at_call 8; rw [← hw0]; clear hw0; refine (awake_any _).mono ?_; rintro e w1 ⟨rfl, hb⟩; have HX1 : Hid (Below (w.heap.size + 1) w0 w1) := Lib.hid (by rw [← Hz0.out]; exact hb); obtain ⟨d0, d1⟩ := HK.out _ HX1.out; clear hb)
      | (go_at_call 9; refine (funcOf_any _ A c B d f 700 (by omega) (by omega) (Hp.out.below (HW0.out.trans (HX1.out.mono (by omega)))) (H.out.below (HW0.out.trans (HX1.out.mono (by omega))))).mono ?_; rintro e w2 ⟨n, rfl, hn0, hn1, _, hb⟩; have HX2 : Hid (Below (w.heap.size + 1) w0 w2) := Lib.hid (HX1.out.trans (hb.mono (by have := HX1.out.size; have := Hz0.out; omega))); clear d0 d1 hb; obtain ⟨d0, d1⟩ := HK.out _ HX2.out; have hw1 : IntKind.i64.wrap (n + ag.length) = n + ag.length := IntWalk.i64_in _ (by omega); have hw2 : IntKind.i64.wrap (n + ag.length + mem.length) = n + ag.length + mem.length := IntWalk.i64_in _ (by omega); have hw3 : IntKind.i64.wrap (n + ag.length + mem.length + ans.length) = n + ag.length + mem.length + ans.length := IntWalk.i64_in _ (by omega); by_cases hs : 700 < n + ag.length + mem.length + ans.length))
    · go_ret; exact ⟨rfl, HW0.out.trans (HX2.out.mono (by omega))⟩
    · have hnb : ans.length ≤ 1000000 := by omega
      go_upto_region 6 with (go_at_call 10; refine (go_any _ A c B d f X cx _ ag Y cy _ mem Z cz _ ans fuel (Hp.out.below (HW0.out.trans (HX2.out.mono (by omega)))) (H.out.below (HW0.out.trans (HX2.out.mono (by omega)))) (Hx.out.below (HW0.out.trans (HX2.out.mono (by omega)))) rfl (Hy.out.below (HW0.out.trans (HX2.out.mono (by omega)))) rfl (Hz.out.below (HW0.out.trans (HX2.out.mono (by omega)))) rfl HFW.out HAx.out HAm.out HAn.out hnb).mono ?_; rintro e w3 ⟨hb, hor⟩; obtain ⟨_, rfl⟩ := hor.resolve_right (fun h => h.elim (fun h => hok h.1) (fun h => hok h.1)); have HX3 : Hid (Below (w.heap.size + 1) w0 w3) := Lib.hid (HX2.out.trans (hb.mono (by have := HX2.out.size; have := Hz0.out; omega))); clear d0 d1 hb hor; unfold zeroR)
      obtain ⟨W4, hW4⟩ : ∃ W4 : World, W4 = w3.alloc (.cells #[.int .i64 0, .int .i64 0, .slice none 0 0, .slice none 0 0, .int .i64 0] 35) := ⟨_, rfl⟩
      rw [← hW4]
      have HX4 : Hid (Below (w.heap.size + 1) w0 W4) := Lib.hid (by rw [hW4]; exact HX3.out.alloc (by have := HX3.out.size; have := Hz0.out; omega) _)
      obtain ⟨d0, d1⟩ := HK.out _ HX4.out
      clear hW4
      have hw4 : IntKind.i64.wrap (fuel + 1) = fuel + 1 := IntWalk.i64_in _ (by omega)
      obtain ⟨q, hq⟩ : ∃ q, pickI pick (fuel + 1) = q := ⟨_, rfl⟩
      have HQ := Lib.hid hq
      clear hq
      go_wp2_with (first
        | (go_at_call 11; refine (pick_any pick (fuel + 1) _ hpk.1 hpk.2 (by omega)).mono ?_; rintro e w9 ⟨rfl, rfl⟩; rw [HQ.out])
        | (go_at_call 10; refine (go_any _ A c B d f X cx _ ag Y cy _ mem Z cz _ ans q (Hp.out.below (HW0.out.trans (HX4.out.mono (by omega)))) (H.out.below (HW0.out.trans (HX4.out.mono (by omega)))) (Hx.out.below (HW0.out.trans (HX4.out.mono (by omega)))) rfl (Hy.out.below (HW0.out.trans (HX4.out.mono (by omega)))) rfl (Hz.out.below (HW0.out.trans (HX4.out.mono (by omega)))) rfl HFW.out HAx.out HAm.out HAn.out hnb).mono ?_; rintro e w5 ⟨hb, hor⟩; obtain ⟨_, rfl⟩ := hor.resolve_right (fun h => h.elim (fun h => hok h.1) (fun h => hok h.1)); have HX5 : Hid (Below (w.heap.size + 1) w0 w5) := Lib.hid (HX4.out.trans (hb.mono (by have := HX4.out.size; have := Hz0.out; omega))); clear hb hor d0 d1; unfold zeroR))
      go_ret
      exact ⟨rfl, HW0.out.trans ((HX5.out.alloc (by have := HX5.out.size; have := Hz0.out; omega) _).mono (by omega))⟩
end Go.Proofs.Ytnbmmfkkjceehaa
