/- The walk of the statement RunSafe. -/
import Derived.Test.YtnbmmfkkjceehaaR28
namespace Go.Proofs.Ytnbmmfkkjceehaa
set_option linter.unusedSimpArgs false
set_option linter.unusedVariables false
open Go.RowKit

theorem RunAt.not_new {w : World} {base p m n : Nat} {h : RunH} {f : FnD} {s : RunD} (hr : RunAt w base p m n h f s) {b : Nat} (hb : w.heap.size ≤ b) : ¬ Foot p m h b := fun hf => by have := (hr.lt b hf).1; omega
theorem Try.resField (a b c d e : Value) (w : World) : (Instr.field 35 (.agg #[a, b, c, d, e]) 0).run Try.prog w = .ok a w := by kernel_rfl
set_option maxRecDepth 100000 in
set_option maxHeartbeats 16000000 in
theorem runSafe_any (w : World) (A : Option Addr) (c : Nat) (B : Option Addr) (d : Nat) (f : FnD) (X : Option Addr) (cx nx : Nat) (ag : List Int) (Y : Option Addr) (cy ny : Nat) (mem : List Int) (Z : Option Addr) (cz nz : Nat) (ans : List Int) (fuel : Int)
    (hp : RI w A c f.params) (h : RBlk w B d f.blocks) (hx : RI w X cx ag) (hnx : ag.length = nx) (hy : RI w Y cy mem) (hny : mem.length = ny) (hz : RI w Z cz ans) (hnz : ans.length = nz) (hfw : FnW f) (hax : ∀ v ∈ ag, okI v) (ham : ∀ v ∈ mem, okI v) (han : ∀ v ∈ ans, okI v) :
    Calls Try.prog 5 #[fnV A c B d f, .slice X nx cx, .slice Y ny cy, .slice Z nz cz, .int .i64 fuel] w (RetBb true w) := by
  subst hnx hny hnz
  have hxb := hx.big
  have hyb := hy.big
  have hzb := hz.big
  have H := Lib.hid h
  have Hp := Lib.hid hp
  have Hx := Lib.hid hx
  have Hy := Lib.hid hy
  have Hz := Lib.hid hz
  have HFW := Lib.hid hfw
  have HAx := Lib.hid hax
  have HAm := Lib.hid ham
  have HAn := Lib.hid han
  clear h hp hx hy hz hfw hax ham han
  simp only [fnV]
  have hfld := fun (C M : Option Addr) (nc cc nm mc : Nat) (a b s : Int) (w : World) => Try.resField (.int .i64 a) (.int .i64 b) (.slice C nc cc) (.slice M nm mc) (.int .i64 s) w
  go_enter Try.func5, Try.ntmps5
  obtain ⟨w0, hw0⟩ : ∃ w0 : World, w0 = w.alloc (.cells #[.slice A f.params.length c, .slice B f.blocks.length d] 30) := ⟨_, rfl⟩
  have HK : Hid (∀ wr, Below (w.heap.size + 1) w0 wr → wr.cell? ⟨w.heap.size, 0, none⟩ = some (.slice A f.params.length c) ∧ wr.cell? ⟨w.heap.size, 1, none⟩ = some (.slice B f.blocks.length d)) := Lib.hid (fun wr hb => by
    subst hw0
    have d0 := hb.cell (p := ⟨w.heap.size, 0, none⟩) (by simp)
    have d1 := hb.cell (p := ⟨w.heap.size, 1, none⟩) (by simp)
    simp only [World.cell?_alloc_new, List.getElem?_toArray, List.getElem?_cons_zero, List.getElem?_cons_succ] at d0 d1
    exact ⟨d0, d1⟩)
  have hz0 : w0.heap.size = w.heap.size + 1 := by rw [hw0]; simp
  have Hz0 := Lib.hid hz0
  have HW0 : Hid (Below w.heap.size w w0) := Lib.hid (by rw [hw0]; go_grown)
  clear hz0
  by_cases hfu : 200 < fuel
  · go_wp2_with (first
      | (go_at_call 8; rw [← hw0]; clear hw0; refine (awake_any _).mono ?_; rintro e w1 ⟨rfl, hb⟩; have HX1 : Hid (Below (w.heap.size + 1) w0 w1) := Lib.hid (by rw [← Hz0.out]; exact hb); obtain ⟨d0, d1⟩ := HK.out _ HX1.out; clear hb)
      | (go_at_call 9; refine (funcOf_any _ A c B d f 700 (by omega) (by omega) (Hp.out.below (HW0.out.trans (HX1.out.mono (by omega)))) (H.out.below (HW0.out.trans (HX1.out.mono (by omega))))).mono ?_; rintro e w2 ⟨n, rfl, hn0, hn1, _, hb⟩; have HX2 : Hid (Below (w.heap.size + 1) w0 w2) := Lib.hid (HX1.out.trans (hb.mono (by have := HX1.out.size; have := Hz0.out; omega))); clear d0 d1 hb; obtain ⟨d0, d1⟩ := HK.out _ HX2.out; have hw1 : IntKind.i64.wrap (n + ag.length) = n + ag.length := IntWalk.i64_in _ (by omega); have hw2 : IntKind.i64.wrap (n + ag.length + mem.length) = n + ag.length + mem.length := IntWalk.i64_in _ (by omega); have hw3 : IntKind.i64.wrap (n + ag.length + mem.length + ans.length) = n + ag.length + mem.length + ans.length := IntWalk.i64_in _ (by omega); (rcases Bool.eq_false_or_eq_true (decide (700 < n + ag.length + mem.length + ans.length)) with hs | hs)))
    all_goals go_ret; exact ⟨rfl, HW0.out.trans (HX2.out.mono (by omega))⟩
  have hfb0 : decide (200 < fuel) = false := by simpa using hfu
  by_cases hok : BeginOK f ag mem
  · have HOK := Lib.hid hok
    have HPT := Lib.hid hok.parts
    have HRT := Lib.hid (rightI_zero' hok.1)
    have HF : Hid (∀ k, StepOK f k (itR f (runB f ag mem ans) k)) := Lib.hid (itR_ok HFW.out HPT.out.1 HPT.out.2 (begin_ok hok HAx.out HAm.out HAn.out))
    have HSF : Hid (∀ k, (itR f (runB f ag mem ans) k).fin = 0 → SafeAt f (itR f (runB f ag mem ans) k)) := Lib.hid (safe_it HRT.out.2.1 HRT.out.2.2.1 (safe_begin hok))
    clear hok
    go_wp2_with (first
      | (go_at_call 8; rw [← hw0]; clear hw0; refine (awake_any _).mono ?_; rintro e w1 ⟨rfl, hb⟩; have HX1 : Hid (Below (w.heap.size + 1) w0 w1) := Lib.hid (by rw [← Hz0.out]; exact hb); obtain ⟨d0, d1⟩ := HK.out _ HX1.out; clear hb)
      | (go_at_call 9; refine (funcOf_any _ A c B d f 700 (by omega) (by omega) (Hp.out.below (HW0.out.trans (HX1.out.mono (by omega)))) (H.out.below (HW0.out.trans (HX1.out.mono (by omega))))).mono ?_; rintro e w2 ⟨n, rfl, hn0, hn1, _, hb⟩; have HX2 : Hid (Below (w.heap.size + 1) w0 w2) := Lib.hid (HX1.out.trans (hb.mono (by have := HX1.out.size; have := Hz0.out; omega))); clear d0 d1 hb; obtain ⟨d0, d1⟩ := HK.out _ HX2.out; have hw1 : IntKind.i64.wrap (n + ag.length) = n + ag.length := IntWalk.i64_in _ (by omega); have hw2 : IntKind.i64.wrap (n + ag.length + mem.length) = n + ag.length + mem.length := IntWalk.i64_in _ (by omega); have hw3 : IntKind.i64.wrap (n + ag.length + mem.length + ans.length) = n + ag.length + mem.length + ans.length := IntWalk.i64_in _ (by omega); (rcases Bool.eq_false_or_eq_true (decide (700 < n + ag.length + mem.length + ans.length)) with hs | hs))
      | (go_at_call 14; refine (begin_any _ A c B d f X cx _ ag Y cy _ mem Z cz _ ans (Hp.out.below (HW0.out.trans (HX2.out.mono (by omega)))) (H.out.below (HW0.out.trans (HX2.out.mono (by omega)))) (Hx.out.below (HW0.out.trans (HX2.out.mono (by omega)))) rfl (Hy.out.below (HW0.out.trans (HX2.out.mono (by omega)))) rfl (Hz.out.below (HW0.out.trans (HX2.out.mono (by omega)))) rfl HFW.out HAx.out (by have := of_decide_eq_false hs; omega)).mono ?_; rintro e w3 ⟨hb, hor⟩; obtain ⟨_, p, m, n0, h, rfl, hr, hn8⟩ := hor.resolve_left (fun h => h.1 HOK.out); have HR3 := Lib.hid hr; have HB3 := Lib.hid hb; clear d0 d1 hb hor hr))
    · go_ret; exact ⟨rfl, HW0.out.trans (HX2.out.mono (by omega))⟩
    clear hw1 hw2 hw3
    have hsz2 : Hid (w.heap.size + 1 ≤ w2.heap.size) := Lib.hid (by have := HX2.out.size; have := Hz0.out; omega)
    go_loopw [13] (fun nv wr => ∃ (k : Nat) (h' : RunH) (n' : Nat), (k : Int) ≤ max fuel 0 ∧ nv = .int .i64 k ∧ RunAt wr w2.heap.size p m n' h' f (itR f (runB f ag mem ans) k) ∧ n' ≤ 8 + k ∧ Hid ((itR f (runB f ag mem ans) k).steps = k) ∧ Below w2.heap.size w2 wr) (fun nv _ => fuel.toNat - (intOf nv).toNat)
    case atStart => exact ⟨0, h, n0, by omega, rfl, HR3.out, by omega, Lib.hid rfl, HB3.out⟩
    case round =>
      obtain ⟨k, h', n', hk, rfl, hr, hn', HST, hb⟩ := hrel
      have HR := Lib.hid hr
      have HB := Lib.hid hb
      have hsz := hb.size
      have HX : Hid (Below (w.heap.size + 1) w0 wr) := Lib.hid (HX2.out.trans (hb.mono hsz2.out))
      clear hr hb
      have hk2 : k ≤ 200 := by omega
      obtain ⟨S, hS⟩ : ∃ S, itR f (runB f ag mem ans) k = S := ⟨_, rfl⟩
      have HO := HF.out k
      have HSA := Lib.hid (HSF.out k)
      have HSS := Lib.hid hS
      rw [hS] at HR HO HST HSA
      have HOx := Lib.hid HO
      have hbl := HO.block
      have hins := HO.ins
      clear hS HO
      obtain ⟨wo, hwo⟩ : ∃ wo : World, wo = wr := ⟨_, rfl⟩
      subst hwo
      by_cases hlt : (k : Int) < fuel
      · go_upto_region 12 with (go_at_call 15; refine (at_any _ w2.heap.size p m n' h' f S HR.out).mono ?_; rintro e w4 ⟨rfl, hb4⟩; have HB4 := Lib.hid hb4; have HR4 := Lib.hid (HR.out.below hb4); clear hb4)
        by_cases hfin : S.fin = 0
        · have hfb : (S.fin != 0) = false := by simp [hfin]
          have HRD := Lib.hid (safe_reads HRT.out.2.2.2 (HSA.out hfin) hfin)
          have HVO := Lib.hid (fun v => var_only (s := S) HRT.out.2.1 hbl hfin v)
          have HGO := Lib.hid (fun h1 => goes_on (s := S) HRT.out.2.1 hbl hfin h1)
          have HIL : Hid (S.ins ≤ (atBlk f S).ins.length) := Lib.hid (by obtain ⟨_, h1⟩ := HSA.out hfin hfin; exact h1.ins)
          have HST2 : Hid ((stepR f S).2 = true) := Lib.hid (by unfold stepR; rw [if_pos hfin])
          have HSP : Hid ((stepR f S).1.steps = k + 1) := Lib.hid (by rw [stepR_steps hfin, HST.out])
          have HO1 : Hid (StepOK f (k + 1) (stepR f S).1) := Lib.hid (by have := HF.out (k + 1); rw [show itR f (runB f ag mem ans) (k + 1) = (stepR f (itR f (runB f ag mem ans) k)).1 from rfl, HSS.out] at this; exact this)
          have HXm : Hid (f.blocks[S.block] ∈ f.blocks) := Lib.hid (List.getElem_mem hbl)
          have HXE : Hid (f.blocks[S.block] = atBlk f S) := Lib.hid (atBlk_eq hbl)
          obtain ⟨S1, hS1⟩ : ∃ s, (stepR f S).1 = s := ⟨_, rfl⟩
          rw [hS1] at HVO HGO HSP HO1
          have HS1 := Lib.hid hS1
          clear hfin hS1
          go_upto_region 17 with (go_at_call 16; refine (result_any _ w2.heap.size p m n' h' f S HR4.out (HOx.out.w (by omega)) HOx.out.data.args).mono ?_; rintro e w5 ⟨C5, cc5, M5, mc5, rfl, hb5, _, _⟩; have HB45 := Lib.hid hb5; have HR5 := Lib.hid (HR4.out.below hb5); clear hb5; unfold resV)
          have HB5 : Hid (Below w.heap.size w w5) := Lib.hid (HW0.out.trans ((HX.out.trans ((HB4.out.trans (HB45.out.mono HB4.out.size)).mono (by have := hsz2.out; omega))).mono (by omega)))
          obtain ⟨bb, ob, A1, c1, hA1, hbs1, hat0⟩ := H.out.at S.block hbl
          have hat := hat0.below hbs1 HB5.out
          obtain ⟨x, hx⟩ : ∃ x, f.blocks[S.block] = x := ⟨_, rfl⟩
          rw [hx] at hat HXm HXE
          have HIR := Lib.hid hat.ins
          have g0 := hat.c0
          have g1 := hat.c1
          have g2 := hat.c2
          have g3 := hat.c3
          have g4 := hat.c4
          have hib := hat.ins.big
          obtain ⟨d0, d1⟩ := HK.out w5 (HX.out.trans ((HB4.out.trans (HB45.out.mono HB4.out.size)).mono (by have := hsz2.out; omega)))
          rw [hA1] at d1
          have HA1 := Lib.hid hA1
          clear hat hat0 hx hA1
          go_upto_region 18 with fail
          obtain ⟨W6, hW6⟩ : ∃ W6 : World, W6 = w5.alloc (.cells #[.slice A1 x.ins.length c1, .int .i64 x.term.kind, .int .i64 x.term.a, .int .i64 x.term.t0, .int .i64 x.term.t1] 55) := ⟨_, rfl⟩
          rw [← hW6]
          have HB56 : Hid (Below w5.heap.size w5 W6) := Lib.hid (by rw [hW6]; exact (Below.refl _ _).alloc (Nat.le_refl _) _)
          have hc6 : W6.heap[w5.heap.size]? = some (.cells #[.slice A1 x.ins.length c1, .int .i64 x.term.kind, .int .i64 x.term.a, .int .i64 x.term.t0, .int .i64 x.term.t1] 55 (0, 0)) := by rw [hW6]; exact heap_alloc_new w5 _
          have HC6 := Lib.hid hc6
          have HKB : Hid (∀ wr : World, wr.heap[w5.heap.size]? = W6.heap[w5.heap.size]? → wr.cell? ⟨w5.heap.size, 0, none⟩ = some (.slice A1 x.ins.length c1) ∧ wr.cell? ⟨w5.heap.size, 1, none⟩ = some (.int .i64 x.term.kind) ∧ wr.cell? ⟨w5.heap.size, 2, none⟩ = some (.int .i64 x.term.a) ∧ wr.cell? ⟨w5.heap.size, 3, none⟩ = some (.int .i64 x.term.t0) ∧ wr.cell? ⟨w5.heap.size, 4, none⟩ = some (.int .i64 x.term.t1)) := Lib.hid (fun wr hb => by
            have hc := hb.trans HC6.out
            refine ⟨?_, ?_, ?_, ?_, ?_⟩
            · rw [cell_of_row wr _ 0 _ _ _ hc]; rfl
            · rw [cell_of_row wr _ 1 _ _ _ hc]; rfl
            · rw [cell_of_row wr _ 2 _ _ _ hc]; rfl
            · rw [cell_of_row wr _ 3 _ _ _ hc]; rfl
            · rw [cell_of_row wr _ 4 _ _ _ hc]; rfl)
          have HR6 := Lib.hid (HR5.out.below HB56.out)
          have HI6 := Lib.hid (HIR.out.below HB56.out)
          clear hW6 hc6 g0 g1 g2 g3 g4 d0 d1
          obtain ⟨g0, g1, g2, g3, g4⟩ := HKB.out W6 rfl
          obtain ⟨L, hL⟩ : ∃ L, needOf f S = L := ⟨_, rfl⟩
          obtain ⟨D, hD⟩ : ∃ D, defOf f S = D := ⟨_, rfl⟩
          have HL := Lib.hid hL
          have HD := Lib.hid hD
          clear hL hD
          have HLv : Hid (∀ v ∈ L, okI v ∧ (S.vars v).isSome = true) := Lib.hid (fun v hv => by
            rw [← HL.out] at hv
            refine ⟨?_, HRD.out v hv⟩
            unfold needOf at hv
            split at hv
            · have := readsL_one hv; exact okI_num v (by omega) (by omega)
            · have := needsL_one hv; exact okI_num v (by omega) (by omega))
          have hLl : L.length ≤ 10 := by
            rw [← HL.out]; unfold needOf
            split
            · exact readsL_len _
            · have := needsL_len (atBlk f S).term; omega
          go_upto_if 125 with (go_at_call 18; refine (needs_any _ x.term).mono ?_; rintro e w7 ⟨v7, rfl, hb7, hown7⟩; obtain ⟨A4, c4, rfl, hr4, _⟩ := ownsRow_RI_base hown7 (by have := needsL_len x.term; omega); have HR7 : Hid (RI w7 A4 c4 (needsL x.term)) := Lib.hid hr4; have HB67 := Lib.hid hb7; clear hr4 hown7 hb7 g0 g1 g2 g3 g4; obtain ⟨g0, g1, g2, g3, g4⟩ := HKB.out w7 (HB67.out.block _ (lt_of_block HC6.out)))
          go_cut [22, 23] from 125 to 137 (fun v22 v23 wc => ∃ A4 c4, v22 = .slice A4 L.length c4 ∧ v23 = .int .i64 D ∧ Hid (RI wc A4 c4 L) ∧ Hid (Below W6.heap.size W6 wc))
          case first =>
            by_cases hin : S.ins < x.ins.length
            · obtain ⟨ib, io, A2, c2, hA2, hib2, hiat⟩ := (HI6.out.below HB67.out).at S.ins hin
              have h8 := HPT.out.1.args x HXm.out _ (List.getElem_mem hin)
              have hLy : readsL x.ins[S.ins] = L := by
                rw [← HL.out]; unfold needOf; rw [← HXE.out, if_pos hin, ← List.getElem_eq_getD]
              have hDy : definesI x.ins[S.ins] = D := by
                rw [← HD.out]; unfold defOf; rw [← HXE.out, if_pos hin, ← List.getElem_eq_getD]
              obtain ⟨y, hy⟩ : ∃ y, x.ins[S.ins] = y := ⟨_, rfl⟩
              rw [hy] at hiat h8 hLy hDy
              have HLy := Lib.hid hLy
              have HDy := Lib.hid hDy
              have HIA := Lib.hid hiat.args
              subst hA2
              have i0 := hiat.c0
              have i1 := hiat.c1
              have i2 := hiat.c2
              have i3 := hiat.c3
              have i4 := hiat.c4
              have i5 := hiat.c5
              have i6 := hiat.c6
              have i7 := hiat.c7
              have HIT := Lib.hid hiat
              clear hiat hy hLy hDy
              go_wp2_with (first
                | (go_at_call 19; refine (reads_any _ A2 c2 y HIA.out (by omega)).mono ?_; rintro e w8 ⟨v8, rfl, hb8, hown8⟩; rw [HLy.out] at hown8; obtain ⟨A5, c5, rfl, hr5, _⟩ := ownsRow_RI_base hown8 (by omega); have HR8 : Hid (RI w8 A5 c5 L) := Lib.hid hr5; have HB78 := Lib.hid hb8; have hii := HIT.out.below hib2 HB78.out; (have g0' : w8.cell? ⟨w5.heap.size, 0, none⟩ = some (.slice (some ⟨ib, io, none⟩) x.ins.length c1) := (HKB.out w8 ((HB78.out.block _ (Nat.lt_of_lt_of_le (lt_of_block HC6.out) HB67.out.size)).trans (HB67.out.block _ (lt_of_block HC6.out)))).1); clear hr5 hown8 hb8 i0 i1 i2 i3 i4 i5 i6 i7 g0 g1 g2 g3 g4; (have i0 := hii.c0); (have i1 := hii.c1); (have i2 := hii.c2); (have i3 := hii.c3); (have i4 := hii.c4); (have i5 := hii.c5); (have i6 := hii.c6); (have i7 := hii.c7); have HIA2 := Lib.hid hii.args; clear hii)
                | (go_at_call 20; refine (defines_any _ A2 c2 y HIA2.out).mono ?_; rintro e w10 ⟨rfl, hb10⟩; rw [HDy.out]; have HB810 := Lib.hid hb10; clear hb10))
              go_meet
              case rel => exact ⟨A5, c5, rfl, rfl, Lib.hid (HR8.out.below HB810.out), Lib.hid (HB67.out.trans ((HB78.out.trans (HB810.out.mono HB78.out.size)).mono HB67.out.size))⟩
            · have hLy : needsL x.term = L := by
                rw [← HL.out]; unfold needOf; rw [← HXE.out, if_neg hin]
              have hDy : D = 0 := by
                rw [← HD.out]; unfold defOf; rw [← HXE.out, if_neg hin]
              have HLy := Lib.hid hLy
              have HDy := Lib.hid hDy
              clear hLy hDy
              go_wp2_with fail
              go_meet
              case rel => exact ⟨A4, c4, by rw [HLy.out], by rw [HDy.out], Lib.hid (by have := HR7.out; rwa [HLy.out] at this), Lib.hid HB67.out⟩
          case rest =>
            obtain ⟨A5, c5, rfl, rfl, HRL, HBc⟩ := hcut
            have HRc := Lib.hid (HR6.out.below HBc.out)
            obtain ⟨wd, hwd⟩ : ∃ wd : World, wd = wc := ⟨_, rfl⟩
            subst hwd
            clear g0 g1 g2 g3 g4
            go_wp2_with fail
            go_loop [24] (fun kv => ∃ j : Nat, j ≤ L.length ∧ kv = .int .i64 j) (fun kv => L.length - (intOf kv).toNat)
            case atStart => exact ⟨0, Nat.zero_le _, rfl⟩
            case round =>
              obtain ⟨j, hj, rfl⟩ := hrel
              by_cases hjl : j < L.length
              · obtain ⟨lb, lo, hAl, hlb, hlc⟩ := HRL.out.at j hjl
                obtain ⟨hvk, hvs⟩ := HLv.out _ (List.getElem_mem hjl)
                obtain ⟨v, hv⟩ : ∃ v, L[j] = v := ⟨_, rfl⟩
                rw [hv] at hlc hvk hvs
                have HVK := Lib.hid hvk
                have HVS := Lib.hid hvs
                subst hAl
                clear hv hvk hvs
                go_wp2_with (go_at_call 21; refine (var_any _ w2.heap.size p m n' h' f S v HRc.out HVK.out).mono ?_; rintro e w9 ⟨rfl, rfl⟩; rw [HVS.out])
                go_round
                case rel => exact ⟨j + 1, by omega, by go_num⟩
                case measure => simp [intOf]; omega
              · go_upto_block 4 with ((with_reducible refine wpList_alloc_num rfl 62 rfl Try.numZero ?_); obtain ⟨W9, hW9⟩ : ∃ W9 : World, W9 = wd.alloc (.cells (numC fun _ => 0) 62) := ⟨_, rfl⟩; have HN9 : Hid (NumAt W9 wd.heap.size 62 (fun _ => 0)) := Lib.hid (by rw [hW9]; exact NumAt.new _ _ _); have HB9 : Hid (Below wd.heap.size wd W9) := Lib.hid (by rw [hW9]; exact (Below.refl _ _).alloc (Nat.le_refl _) _); rw [← hW9]; clear hW9)
                obtain ⟨G, hG⟩ : ∃ G, wd.heap.size = G := ⟨_, rfl⟩
                have HG := Lib.hid hG
                rw [hG] at HN9 ⊢
                clear hG
                go_wp2_with fail
                go_loopw [28] (fun kv wr => ∃ j : Nat, 1 ≤ j ∧ j ≤ 201 ∧ kv = .int .i64 j ∧ Hid (NumAt wr G 62 (fun v => if 1 ≤ v ∧ v < j then getV S.vars v else 0)) ∧ Hid (Below G wd wr)) (fun kv _ => 201 - (intOf kv).toNat)
                case atStart => exact ⟨1, Nat.le_refl _, by omega, rfl, Lib.hid (by have := HN9.out; rwa [show (fun v : Nat => if 1 ≤ v ∧ v < 1 then getV S.vars v else 0) = (fun _ => 0) from funext (fun v => if_neg (by omega))]), Lib.hid (by rw [← HG.out]; exact HB9.out)⟩
                case round =>
                  obtain ⟨j1, hj1, hj2, rfl, HNA, HBN⟩ := hrel
                  have HRn := Lib.hid (HRc.out.below (by rw [HG.out]; exact HBN.out))
                  by_cases hjl : j1 < 201
                  · obtain ⟨y, hy⟩ : ∃ y, (S.vars (j1 : Int)).getD 0 = y := ⟨_, rfl⟩
                    have HY := Lib.hid hy
                    clear hy
                    have hcs := HNA.out.cell j1 hjl
                    have hfs := HNA.out.free j1
                    go_wp2_with (go_at_call 21; refine (var_any _ w2.heap.size p m n' h' f S j1 HRn.out (okI_num _ (by omega) (by omega))).mono ?_; rintro e w9 ⟨rfl, rfl⟩; rw [HY.out])
                    go_roundw
                    case rel =>
                      refine ⟨j1 + 1, by omega, by omega, by go_num, Lib.hid ?_, Lib.hid (HBN.out.setCell (Nat.le_refl _) _)⟩
                      refine Eq.trans (HNA.out.stored j1 hjl y) ?_
                      have e : updN (fun v => if 1 ≤ v ∧ v < j1 then getV S.vars v else 0) j1 y = (fun v => if 1 ≤ v ∧ v < j1 + 1 then getV S.vars v else 0) := by
                        funext v
                        unfold updN
                        by_cases e : v = j1
                        · subst e; rw [if_pos rfl, if_pos (by omega), ← HY.out]; rfl
                        · rw [if_neg e]
                          show (if 1 ≤ v ∧ v < j1 then getV S.vars v else 0) = _
                          by_cases e2 : 1 ≤ v ∧ v < j1
                          · rw [if_pos e2, if_pos (by omega)]
                          · rw [if_neg e2, if_neg (by omega)]
                      rw [e]
                    case measure => simp [intOf]; omega
                  · obtain rfl : j1 = 201 := by omega
                    obtain ⟨we, hwe⟩ : ∃ we : World, we = wr := ⟨_, rfl⟩
                    subst hwe
                    have hbase : w2.heap.size ≤ we.heap.size := by
                      have h1 := HBN.out.size
                      have h2 := HBc.out.size
                      have h3 := HB56.out.size
                      have h4 := HB45.out.size
                      have h5 := HB4.out.size
                      omega
                    have HBoe : Hid (Below wo.heap.size wo we) := Lib.hid (by
                      have h5 : Below wo.heap.size wo w5 := HB4.out.trans (HB45.out.mono HB4.out.size)
                      have h6 : Below wo.heap.size wo W6 := h5.trans (HB56.out.mono h5.size)
                      have hd : Below wo.heap.size wo wd := h6.trans (HBc.out.mono h6.size)
                      exact hd.trans (HBN.out.mono (by rw [← HG.out]; exact hd.size)))
                    have HBWe : Hid (Below w2.heap.size w2 we) := Lib.hid (HB.out.trans (HBoe.out.mono hsz))
                    have HKe : Hid (we.heap[w5.heap.size]? = W6.heap[w5.heap.size]?) := Lib.hid ((HBN.out.block _ (by have := lt_of_block HC6.out; have := HBc.out.size; have := HG.out; omega)).trans (HBc.out.block _ (lt_of_block HC6.out)))
                    have hle5 : Hid (w5.heap.size < we.heap.size) := Lib.hid (by have := lt_of_block HC6.out; have := HBc.out.size; have := HG.out; have := HBN.out.size; omega)
                    go_upto_block 6 with (go_at_call 17; refine (step_any _ w2.heap.size p m n' h' f S HRn.out hbase HFW.out HPT.out.1 HPT.out.2 (HOx.out.w (by omega)) (by omega) (by omega) (by have := HST.out; omega) hbl).mono ?_; rintro e w10 ⟨rfl, h2, n2, hr2, ht2, hn2⟩; rw [HST2.out]; rw [HS1.out] at hr2; have HR2 := Lib.hid hr2; have HT2 := Lib.hid ht2; clear hr2 ht2)
                    have HB10 : Hid (Below w2.heap.size w2 w10) := Lib.hid (HBWe.out.trans (HT2.out.toBelow HRn.out hbase))
                    have HNB : Hid (NumAt w10 G 62 (fun v => if 1 ≤ v ∧ v < 201 then getV S.vars v else 0)) := Lib.hid (HNA.out.kept (HT2.out.keep G HNA.out.lt (HRc.out.not_new (by rw [HG.out]; exact Nat.le_refl _))))
                    have HK10 : Hid (w10.heap[w5.heap.size]? = W6.heap[w5.heap.size]?) := Lib.hid ((HT2.out.keep _ hle5.out (HR5.out.not_new (Nat.le_refl _))).trans HKe.out)
                    have hle10 : Hid (w5.heap.size < w10.heap.size) := Lib.hid (Nat.lt_of_lt_of_le hle5.out HT2.out.size)
                    go_wp2_with fail
                    go_loop [29] (fun kv => ∃ j : Nat, 1 ≤ j ∧ j ≤ 201 ∧ kv = .int .i64 j) (fun kv => 201 - (intOf kv).toNat)
                    case atStart => exact ⟨1, Nat.le_refl _, by omega, rfl⟩
                    case round =>
                      obtain ⟨j2, hj3, hj4, rfl⟩ := hrel
                      by_cases hjl2 : j2 < 201
                      · obtain ⟨y1, hy1⟩ : ∃ y, (S1.vars (j2 : Int)).getD 0 = y := ⟨_, rfl⟩
                        obtain ⟨y0, hy0⟩ : ∃ y, (S.vars (j2 : Int)).getD 0 = y := ⟨_, rfl⟩
                        have hcs := HNB.out.cell j2 hjl2
                        rw [if_pos ⟨hj3, hjl2⟩, show getV S.vars (j2 : Int) = y0 from hy0] at hcs
                        have HY1 := Lib.hid hy1
                        have hvo := HVO.out (j2 : Int) (by omega)
                        rw [show getV S1.vars (j2 : Int) = y1 from hy1, show getV S.vars (j2 : Int) = y0 from hy0, HD.out] at hvo
                        clear hy1 hy0
                        by_cases hne : y1 = y0
                        · subst hne
                          have hq : (y1 != y1) = false := by simp
                          clear hvo
                          go_wp2_with (go_at_call 21; refine (var_any _ w2.heap.size p m n2 h2 f S1 (j2 : Int) HR2.out (okI_num _ (by omega) (by omega))).mono ?_; rintro e w9 ⟨rfl, rfl⟩; rw [HY1.out])
                          go_round
                          case rel => exact ⟨j2 + 1, by omega, by omega, by go_num⟩
                          case measure => simp [intOf]; omega
                        · have hq : (y1 != y0) = true := by simpa using hne
                          have hq2 : ((j2 : Int) != D) = false := by simp [hvo hne]
                          clear hvo
                          go_wp2_with (go_at_call 21; refine (var_any _ w2.heap.size p m n2 h2 f S1 (j2 : Int) HR2.out (okI_num _ (by omega) (by omega))).mono ?_; rintro e w9 ⟨rfl, rfl⟩; rw [HY1.out])
                          go_round
                          case rel => exact ⟨j2 + 1, by omega, by omega, by go_num⟩
                          case measure => simp [intOf]; omega
                      · obtain ⟨bI, hbI⟩ : ∃ z : Int, (S1.block : Int) = z := ⟨_, rfl⟩
                        obtain ⟨iI, hiI⟩ : ∃ z : Int, (S1.ins : Int) = z := ⟨_, rfl⟩
                        have HBI := Lib.hid hbI
                        have HII := Lib.hid hiI
                        clear hbI hiI
                        go_upto_region 43 with (go_at_call 15; refine (at_any _ w2.heap.size p m n2 h2 f S1 HR2.out).mono ?_; rintro e w11 ⟨rfl, hb11⟩; rw [HBI.out, HII.out]; have HB11 := Lib.hid hb11; have HR11 := Lib.hid (HR2.out.below hb11); clear hb11)
                        have HK11 : Hid (w11.heap[w5.heap.size]? = W6.heap[w5.heap.size]?) := Lib.hid ((HB11.out.block _ hle10.out).trans HK10.out)
                        by_cases hf1 : S1.fin = 0
                        · have hfb1 : (S1.fin != 0) = false := by simp [hf1]
                          have HG1 := Lib.hid (HGO.out hf1)
                          clear hf1
                          go_upto_region 44 with (go_at_call 16; refine (result_any _ w2.heap.size p m n2 h2 f S1 HR11.out (HO1.out.w (by omega)) HO1.out.data.args).mono ?_; rintro e w12 ⟨C12, cc12, M12, mc12, rfl, hb12, _, _⟩; have HB12 := Lib.hid hb12; have HR12 := Lib.hid (HR11.out.below hb12); clear hb12; unfold resV)
                          have HK12 : Hid (w12.heap[w5.heap.size]? = W6.heap[w5.heap.size]?) := Lib.hid ((HB12.out.block _ (Nat.lt_of_lt_of_le hle10.out HB11.out.size)).trans HK11.out)
                          have HB212 : Hid (Below w2.heap.size w2 w12) := Lib.hid (HB10.out.trans ((HB11.out.trans (HB12.out.mono HB11.out.size)).mono HB10.out.size))
                          obtain ⟨g0, g1, g2, g3, g4⟩ := HKB.out w12 HK12.out
                          by_cases hin : S.ins < x.ins.length
                          · have hlen : ((S.ins : Int) == (x.ins.length : Int)) = false := by simp; omega
                            have hlen2 : (S.ins == x.ins.length) = false := by simp; omega
                            obtain ⟨h3, h4⟩ := HG1.out.1 (by rw [← HXE.out]; exact hin)
                            have e1 : (bI != (S.block : Int)) = false := by rw [← HBI.out, h3]; simp
                            have e2 : (iI != (S.ins : Int) + 1) = false := by rw [← HII.out, h4]; simp
                            clear h3 h4
                            go_wp2_with fail
                            go_roundw
                            case rel =>
                              have hbx : Below w2.heap.size w2 w12 := HB212.out
                              refine ⟨k + 1, h2, n2, by omega, by go_num, ?_, by omega, Lib.hid ?_, hbx⟩
                              · show RunAt _ _ _ _ _ _ _ (stepR f (itR f (runB f ag mem ans) k)).1
                                rw [HSS.out, HS1.out]; exact HR12.out
                              · show (stepR f (itR f (runB f ag mem ans) k)).1.steps = _
                                rw [HSS.out, HS1.out]; exact HSP.out
                            case measure => simp [intOf]; omega
                          · have hlen : ((S.ins : Int) == (x.ins.length : Int)) = true := by have := HIL.out; rw [← HXE.out] at this; simp; omega
                            have hlen2 : (S.ins == x.ins.length) = true := by have := HIL.out; rw [← HXE.out] at this; simp; omega
                            obtain ⟨h3, b, h4, h5, _⟩ := HG1.out.2 (by rw [← HXE.out]; exact hin)
                            have e2 : (iI != 0) = false := by rw [← HII.out, h3]; simp
                            have HGB : Hid (decide (bI ∈ toL x.term) = true) := Lib.hid (by
                              rw [← HXE.out] at h4
                              have := HRT.out.2.2.1 x HXm.out b h4
                              unfold edgeOK at this
                              rw [decide_eq_true_eq, ← HBI.out, h5, show ((b.toNat : Nat) : Int) = b by omega]; exact h4)
                            clear h3 h4 h5
                            go_wp2_with (go_at_call 22; refine (goes_any _ x.term bI).mono ?_; rintro e w13 ⟨rfl, hb13⟩; rw [HGB.out]; have HB13 := Lib.hid hb13; have HR13 := Lib.hid (HR12.out.below hb13); clear hb13)
                            go_roundw
                            case rel =>
                              have hbx : Below w2.heap.size w2 w13 := HB212.out.trans (HB13.out.mono HB212.out.size)
                              refine ⟨k + 1, h2, n2, by omega, by go_num, ?_, by omega, Lib.hid ?_, hbx⟩
                              · show RunAt _ _ _ _ _ _ _ (stepR f (itR f (runB f ag mem ans) k)).1
                                rw [HSS.out, HS1.out]; exact HR13.out
                              · show (stepR f (itR f (runB f ag mem ans) k)).1.steps = _
                                rw [HSS.out, HS1.out]; exact HSP.out
                            case measure => simp [intOf]; omega
                        · have hfb1 : (S1.fin != 0) = true := by simpa using hf1
                          clear hf1
                          go_wp2_with (go_at_call 16; refine (result_any _ w2.heap.size p m n2 h2 f S1 HR11.out (HO1.out.w (by omega)) HO1.out.data.args).mono ?_; rintro e w12 ⟨C12, cc12, M12, mc12, rfl, hb12, _, _⟩; have HB12 := Lib.hid hb12; have HR12 := Lib.hid (HR11.out.below hb12); clear hb12; unfold resV)
                          have HB212 : Hid (Below w2.heap.size w2 w12) := Lib.hid (HB10.out.trans ((HB11.out.trans (HB12.out.mono HB11.out.size)).mono HB10.out.size))
                          go_roundw
                          case rel =>
                            have hbx : Below w2.heap.size w2 w12 := HB212.out
                            refine ⟨k + 1, h2, n2, by omega, by go_num, ?_, by omega, Lib.hid ?_, hbx⟩
                            · show RunAt _ _ _ _ _ _ _ (stepR f (itR f (runB f ag mem ans) k)).1
                              rw [HSS.out, HS1.out]; exact HR12.out
                            · show (stepR f (itR f (runB f ag mem ans) k)).1.steps = _
                              rw [HSS.out, HS1.out]; exact HSP.out
                          case measure => simp [intOf]; omega
        · have hfb : (S.fin != 0) = true := by simpa using hfin
          have HST2 : Hid (stepR f S = (S, false)) := Lib.hid (stepR_stop hfin)
          clear hfin
          go_upto_region 13 with (go_at_call 16; refine (result_any _ w2.heap.size p m n' h' f S HR4.out (HOx.out.w (by omega)) HOx.out.data.args).mono ?_; rintro e w5 ⟨C5, cc5, M5, mc5, rfl, hb5, _, _⟩; have HB45 := Lib.hid hb5; have HR5 := Lib.hid (HR4.out.below hb5); clear hb5; unfold resV)
          have hb5 : w2.heap.size ≤ w5.heap.size := by have := HB4.out.size; have := HB45.out.size; omega
          go_upto_region 14 with (first
            | (go_at_call 16; refine (result_any _ w2.heap.size p m n' h' f S HR5.out (HOx.out.w (by omega)) HOx.out.data.args).mono ?_; rintro e w6 ⟨C6, cc6, M6, mc6, rfl, hb6, _, _⟩; have HB56 := Lib.hid hb6; have HR6 := Lib.hid (HR5.out.below hb6); clear hb6; unfold resV)
            | (go_at_call 17; refine (step_any _ w2.heap.size p m n' h' f S HR6.out (by have := HB56.out.size; omega) HFW.out HPT.out.1 HPT.out.2 (HOx.out.w (by omega)) (by omega) (by omega) (by have := HST.out; omega) hbl).mono ?_; rintro e w7 ⟨rfl, h2, n2, hr2, ht2, hn2⟩; rw [HST2.out] at hr2 ⊢; have HR7 := Lib.hid hr2; have HT7 := Lib.hid ht2; clear hr2 ht2))
          obtain ⟨W8, hW8⟩ : ∃ W8 : World, W8 = w7.alloc (.cells #[.int .i64 S.fin, .int .i64 S.value, .slice C6 S.calls.length cc6, .slice M6 S.mem.length mc6, .int .i64 S.steps] 35) := ⟨_, rfl⟩
          rw [← hW8]
          have HB78 : Hid (Below w7.heap.size w7 W8) := Lib.hid (by rw [hW8]; exact (Below.refl _ _).alloc (Nat.le_refl _) _)
          have HS8 : Hid (W8.heap[w7.heap.size]? = some (.cells #[.int .i64 S.fin, .int .i64 S.value, .slice C6 S.calls.length cc6, .slice M6 S.mem.length mc6, .int .i64 S.steps] 35 (0, 0))) := Lib.hid (by rw [hW8]; exact heap_alloc_new w7 _)
          have HR8 := Lib.hid (HR7.out.below HB78.out)
          have hb6 : w2.heap.size ≤ w6.heap.size := by have := HB56.out.size; omega
          have HB27 : Hid (Below w2.heap.size w2 w7) := Lib.hid (by
            have h5 : Below wo.heap.size wo w5 := HB4.out.trans (HB45.out.mono HB4.out.size)
            have h6 : Below wo.heap.size wo w6 := h5.trans (HB56.out.mono h5.size)
            exact (HB.out.trans (h6.mono hsz)).trans (HT7.out.toBelow HR6.out hb6))
          clear hW8
          go_upto_region 15 with (go_at_call 16; refine (result_any _ w2.heap.size p m n2 h2 f S HR8.out (HOx.out.w (by omega)) HOx.out.data.args).mono ?_; rintro e w9 ⟨C9, cc9, M9, mc9, rfl, hb9, _, _⟩; have HB89 := Lib.hid hb9; have HR9 := Lib.hid (HR8.out.below hb9); clear hb9; unfold resV)
          obtain ⟨W10, hW10⟩ : ∃ W10 : World, W10 = w9.alloc (.cells #[.int .i64 S.fin, .int .i64 S.value, .slice C9 S.calls.length cc9, .slice M9 S.mem.length mc9, .int .i64 S.steps] 35) := ⟨_, rfl⟩
          rw [← hW10]
          have HB910 : Hid (Below w9.heap.size w9 W10) := Lib.hid (by rw [hW10]; exact (Below.refl _ _).alloc (Nat.le_refl _) _)
          have HS10 : Hid (W10.heap[w9.heap.size]? = some (.cells #[.int .i64 S.fin, .int .i64 S.value, .slice C9 S.calls.length cc9, .slice M9 S.mem.length mc9, .int .i64 S.steps] 35 (0, 0))) := Lib.hid (by rw [hW10]; exact heap_alloc_new w9 _)
          have HRA := Lib.hid (HR9.out.below HB910.out)
          clear hW10
          go_upto_region 16 with (go_at_call 15; refine (at_any _ w2.heap.size p m n2 h2 f S HRA.out).mono ?_; rintro e w11 ⟨rfl, hb11⟩; have HB11 := Lib.hid hb11; clear hb11)
          have h7 := lt_of_block HS8.out
          have h9 := lt_of_block HS10.out
          have HB811 : Hid (Below W8.heap.size W8 w11) := Lib.hid (by
            have h1 : Below W8.heap.size W8 W10 := HB89.out.trans (HB910.out.mono HB89.out.size)
            exact h1.trans (HB11.out.mono h1.size))
          have q0 : w11.cell? ⟨w7.heap.size, 4, none⟩ = some (.int .i64 k) := by rw [cell_of_row w11 _ 4 _ _ _ ((HB811.out.block _ h7).trans HS8.out), ← HST.out]; rfl
          have q1 : w11.cell? ⟨w9.heap.size, 4, none⟩ = some (.int .i64 k) := by rw [cell_of_row w11 _ 4 _ _ _ ((HB11.out.block _ h9).trans HS10.out), ← HST.out]; rfl
          have HBf : Hid (Below w.heap.size w w11) := Lib.hid (by
            have h1 : Below w2.heap.size w2 W8 := HB27.out.trans (HB78.out.mono HB27.out.size)
            have h2 : Below w2.heap.size w2 w11 := h1.trans (HB811.out.mono h1.size)
            exact HW0.out.trans ((HX2.out.trans (h2.mono hsz2.out)).mono (by omega)))
          clear h7 h9
          go_wp2_with fail
          go_ret
          exact ⟨rfl, HBf.out⟩
      · have hlb : decide ((k : Int) < fuel) = false := by simpa using hlt
        go_wp2_with fail
        go_ret
        exact ⟨rfl, HW0.out.trans (HX.out.mono (by omega))⟩
  · go_wp2_with (first
      | (go_at_call 8; rw [← hw0]; clear hw0; refine (awake_any _).mono ?_; rintro e w1 ⟨rfl, hb⟩; have HX1 : Hid (Below (w.heap.size + 1) w0 w1) := Lib.hid (by rw [← Hz0.out]; exact hb); obtain ⟨d0, d1⟩ := HK.out _ HX1.out; clear hb)
      | (go_at_call 9; refine (funcOf_any _ A c B d f 700 (by omega) (by omega) (Hp.out.below (HW0.out.trans (HX1.out.mono (by omega)))) (H.out.below (HW0.out.trans (HX1.out.mono (by omega))))).mono ?_; rintro e w2 ⟨n, rfl, hn0, hn1, _, hb⟩; have HX2 : Hid (Below (w.heap.size + 1) w0 w2) := Lib.hid (HX1.out.trans (hb.mono (by have := HX1.out.size; have := Hz0.out; omega))); clear d0 d1 hb; obtain ⟨d0, d1⟩ := HK.out _ HX2.out; have hw1 : IntKind.i64.wrap (n + ag.length) = n + ag.length := IntWalk.i64_in _ (by omega); have hw2 : IntKind.i64.wrap (n + ag.length + mem.length) = n + ag.length + mem.length := IntWalk.i64_in _ (by omega); have hw3 : IntKind.i64.wrap (n + ag.length + mem.length + ans.length) = n + ag.length + mem.length + ans.length := IntWalk.i64_in _ (by omega); (rcases Bool.eq_false_or_eq_true (decide (700 < n + ag.length + mem.length + ans.length)) with hs | hs))
      | (go_at_call 14; refine (begin_any _ A c B d f X cx _ ag Y cy _ mem Z cz _ ans (Hp.out.below (HW0.out.trans (HX2.out.mono (by omega)))) (H.out.below (HW0.out.trans (HX2.out.mono (by omega)))) (Hx.out.below (HW0.out.trans (HX2.out.mono (by omega)))) rfl (Hy.out.below (HW0.out.trans (HX2.out.mono (by omega)))) rfl (Hz.out.below (HW0.out.trans (HX2.out.mono (by omega)))) rfl HFW.out HAx.out (by have := of_decide_eq_false hs; omega)).mono ?_; rintro e w3 ⟨hb, hor⟩; obtain ⟨_, rfl⟩ := hor.resolve_right (fun h => hok h.1); have HX3 : Hid (Below (w.heap.size + 1) w0 w3) := Lib.hid (HX2.out.trans (hb.mono (by have := HX2.out.size; have := Hz0.out; omega))); clear d0 d1 hb hor))
    · go_ret; exact ⟨rfl, HW0.out.trans (HX2.out.mono (by omega))⟩
    · go_ret; exact ⟨rfl, HW0.out.trans (HX3.out.mono (by omega))⟩
end Go.Proofs.Ytnbmmfkkjceehaa
