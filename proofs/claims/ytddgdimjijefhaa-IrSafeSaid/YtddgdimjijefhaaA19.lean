/- Walk: the law IrSafe of chapter 3. -/
import Derived.Test.YtddgdimjijefhaaA18
namespace Go.Proofs.Ytddgdimjijefhaa
set_option linter.unusedSimpArgs false
set_option linter.unusedVariables false
open Go.RowKit

theorem Try.arrZero : (Try.prog.info? 58).map (·.zero) = some (some (.agg (setC fun _ => false))) := by kernel_rfl
theorem Try.under25 : True := trivial
theorem box_cells {w W wr : World} {o : Obj} {G : Nat} (hW : Below (w.heap.size + 1) (w.alloc o) W) (hg : W.grownBy wr (some G)) (hG : w.heap.size ≠ G) (i : Nat) : wr.cell? ⟨w.heap.size, i, none⟩ = (w.alloc o).cell? ⟨w.heap.size, i, none⟩ :=
  (grownBy_cell hg (by have := hW.size; simp at this; omega) hG).trans (hW.cell (p := ⟨w.heap.size, i, none⟩) (by simp))
set_option maxRecDepth 100000 in
set_option maxHeartbeats 4000000 in
theorem irSafe_any (w : World) (A : Option Addr) (c : Nat) (B : Option Addr) (d : Nat) (f : FnD) (Y : Option Addr) (m cy : Nat) (way : List Int) (hp : RI w A c f.params) (h : RBlk w B d f.blocks) (hy : RI w Y cy way) (hm : way.length = m) (hr : ∀ x ∈ way, -9223372036854775808 ≤ x ∧ x ≤ 9223372036854775807) :
    Calls Try.prog 5 #[fnV A c B d f, .slice Y m cy] w (RetBb true w) := by
  subst hm
  have hpbig := hp.big
  have hbig := h.big
  have hybig := hy.big
  have H := Lib.hid h
  have Hp := Lib.hid hp
  have Hy := Lib.hid hy
  have Hr := Lib.hid hr
  clear h hp hy hr
  simp only [fnV]
  go_enter Try.func5, Try.ntmps5
  obtain ⟨w0, hw0⟩ : ∃ w0 : World, w0 = w.alloc (.cells #[.slice A f.params.length c, .slice B f.blocks.length d] 25) := ⟨_, rfl⟩
  have HK : Hid (∀ wr, Below (w.heap.size + 1) w0 wr → wr.cell? ⟨w.heap.size, 0, none⟩ = some (.slice A f.params.length c) ∧ wr.cell? ⟨w.heap.size, 1, none⟩ = some (.slice B f.blocks.length d)) := Lib.hid (fun wr hb => by
    subst hw0
    have d0 := hb.cell (p := ⟨w.heap.size, 0, none⟩) (by simp)
    have d1 := hb.cell (p := ⟨w.heap.size, 1, none⟩) (by simp)
    simp only [World.cell?_alloc_new, List.getElem?_toArray, List.getElem?_cons_zero, List.getElem?_cons_succ] at d0 d1
    exact ⟨d0, d1⟩)
  have hz0 : w0.heap.size = w.heap.size + 1 := by rw [hw0]; simp
  have Hz0 := Lib.hid hz0
  have HW0 : Hid (Below w.heap.size w w0) := Lib.hid (by rw [hw0]; go_grown)
  clear hz0
  go_wp2_with (first
    | (go_at_call 15; rw [← hw0]; clear hw0; refine (awake_any _).mono ?_; rintro e w1 ⟨rfl, hb⟩; have HX1 : Hid (Below (w.heap.size + 1) w0 w1) := Lib.hid (by rw [← Hz0.out]; exact hb); obtain ⟨d0, d1⟩ := HK.out _ HX1.out; clear hb)
    | (go_at_call 10; refine (funcOf_any _ A c B d f 700 (by omega) (by omega) (Hp.out.below (HW0.out.trans (HX1.out.mono (by omega)))) (H.out.below (HW0.out.trans (HX1.out.mono (by omega))))).mono ?_; rintro e w2 ⟨n, rfl, hn0, hn1, _, hb⟩; have HX2 : Hid (Below (w.heap.size + 1) w0 w2) := Lib.hid (HX1.out.trans (hb.mono (by have := HX1.out.size; have := Hz0.out; omega))); clear d0 d1; obtain ⟨d0, d1⟩ := HK.out _ HX2.out; clear hb; by_cases hn : n ≤ 700 <;> by_cases hwl : way.length ≤ 300)
    | (go_at_call 32; refine (right_any _ A c B d f (Hp.out.below (HW0.out.trans (HX2.out.mono (by omega)))) (H.out.below (HW0.out.trans (HX2.out.mono (by omega))))).mono ?_; rintro e w3 ⟨rfl, hb⟩; have HX3 : Hid (Below (w.heap.size + 1) w0 w3) := Lib.hid (HX2.out.trans (hb.mono (by have := HX2.out.size; have := Hz0.out; omega))); clear d0 d1; obtain ⟨d0, d1⟩ := HK.out _ HX3.out; clear hb)
    | ((with_reducible refine wpList_alloc_set rfl 58 rfl Try.arrZero ?_); obtain ⟨W5, hW5⟩ : ∃ W5 : World, W5 = w3.alloc (.cells (setC fun _ => false) 58) := ⟨_, rfl⟩; have HS5 : Hid (SetAt W5 w3.heap.size 58 (fun _ => false)) := Lib.hid (by rw [hW5]; exact SetAt.new _ _ _); have HX5 : Hid (Below (w.heap.size + 1) w0 W5) := Lib.hid (by rw [hW5]; exact HX3.out.alloc (by have := HX3.out.size; have := Hz0.out; omega) _); rw [← hW5]; clear hW5 d0 d1; obtain ⟨d0, d1⟩ := HK.out _ HX5.out; have HG : Hid (w.heap.size < w3.heap.size) := Lib.hid (by have := HX3.out.size; have := Hz0.out; omega)))
  all_goals first
    | (go_ret; exact ⟨rfl, HW0.out.trans (HX3.out.mono (by omega))⟩)
    | (go_ret; exact ⟨rfl, HW0.out.trans (HX2.out.mono (by omega))⟩)
    | skip
  obtain ⟨_, hri⟩ : (n ≤ 700 ∧ (way.length : Int) ≤ 300) ∧ (rightI f != 0) = false := by assumption
  obtain ⟨hl, hwh, hE, hV⟩ := rightI_zero (by simpa using hri)
  have Hl := Lib.hid (longB_blocks hl)
  have HE := Lib.hid hE
  have HV := Lib.hid hV
  have Hargs := Lib.hid (wholeB_args hwh)
  have Hpin := Lib.hid (wholeB_params hwh)
  clear hri hl hwh hE hV
  go_loopw [6] (fun i wr => ∃ k : Nat, k ≤ f.params.length ∧ i = .int .i64 k ∧ SetAt wr w3.heap.size 58 (fun v => decide ((v : Int) ∈ f.params.take k)) ∧ W5.grownBy wr (some w3.heap.size)) (fun i _ => f.params.length - (intOf i).toNat)
  case atStart => exact ⟨0, Nat.zero_le _, rfl, by simpa using HS5.out, grownBy_refl _ _⟩
  case round =>
    obtain ⟨k, hk, rfl, hs, hg⟩ := hrel
    have HS := Lib.hid hs
    have HGr := Lib.hid hg
    have HXr : Hid (Below (w.heap.size + 1) w0 wr) := Lib.hid (HX5.out.grown hg (by have := HX5.out.size; have := Hz0.out; omega) (fun j hj => by cases hj; exact HG.out))
    clear hs hg d0 d1
    obtain ⟨d0, d1⟩ := HK.out _ HXr.out
    by_cases hlt : k < f.params.length
    · obtain ⟨b, o, hA, hbs, hc⟩ := (Hp.out.below (HW0.out.trans (HXr.out.mono (by omega)))).at k hlt
      subst hA
      have hin := Hpin.out _ (List.getElem_mem hlt)
      obtain ⟨v, hv⟩ := Int.eq_ofNat_of_zero_le hin.1
      have hv1 : v < 201 := by omega
      rw [hv] at hc
      have Hv := Lib.hid hv
      clear hv hin
      have hcs := HS.out.cell v hv1
      have hfs := HS.out.free v
      go_wp2
      go_roundw
      case rel =>
        refine ⟨k + 1, by omega, by go_num, ?_, grownBy_setCell HGr.out _ _⟩
        refine Eq.trans (HS.out.stored v hv1 true) ?_
        rw [setC_congr]
        intro j hj
        unfold updF
        rw [take_snoc_eq _ k hlt, Hv.out]
        by_cases e : j = v
        · subst e; simp
        · simp [e]; omega
      case measure => simp [intOf]; omega
    · have hkl : k = f.params.length := by omega
      subst hkl
      have HSF : Hid (SetAt wr w3.heap.size 58 (fun v => decide ((v : Int) ∈ f.params))) := Lib.hid (by have := HS.out; rwa [List.take_length] at this)
      clear HS
      obtain ⟨wo, hwo⟩ : ∃ wo : World, wo = wr := ⟨_, rfl⟩
      subst hwo
      go_wp2_with fail
      clear d0 d1
      go_loopw [7, 8] (fun bv nv wr => ∃ (b n : Nat) (S : SetF), n ≤ way.length ∧ bv = .int .i64 b ∧ nv = .int .i64 n ∧ Hid (Good f b S) ∧ SetAt wr w3.heap.size 58 S ∧ W5.grownBy wr (some w3.heap.size)) (fun _ nv _ => way.length + 1 - (intOf nv).toNat)
      case atStart => exact ⟨0, 0, _, Nat.zero_le _, rfl, rfl, Lib.hid (Good.start f Hl.out.1), HSF.out, HGr.out⟩
      case round =>
        obtain ⟨b, n, S, hn, rfl, rfl, HGood, hs, hg⟩ := hrel
        have HS1 := Lib.hid hs
        have HX6 : Hid (Below (w.heap.size + 1) w0 wr) := Lib.hid (HX5.out.grown hg (by have := HX5.out.size; have := Hz0.out; omega) (fun j hj => by cases hj; exact HG.out))
        have HGr1 := Lib.hid hg
        have hltb := HGood.out.lt
        have HGN : Hid (w3.heap.size < wr.heap.size) := Lib.hid hs.lt
        clear hs hg
        obtain ⟨d0, d1⟩ := HK.out _ HX6.out
        have hbw : Below w.heap.size w wr := HW0.out.trans (HX6.out.mono (by omega))
        obtain ⟨bb, ob, A1, c1, hA1, hbs1, hat0⟩ := H.out.at b hltb
        have HIw := Lib.hid hat0.ins
        have hat := hat0.below hbs1 hbw
        subst hA1
        have g0 := hat.c0
        have g1 := hat.c1
        have g2 := hat.c2
        have g3 := hat.c3
        have g4 := hat.c4
        have hib := hat.ins.big
        clear hat hat0 hbw
        obtain ⟨wm, hwm⟩ : ∃ wm : World, wm = wr := ⟨_, rfl⟩
        subst hwm
        go_wp2_with fail
        obtain ⟨W6, hW6⟩ : ∃ W6 : World, W6 = wm.alloc (.cells #[.slice A1 f.blocks[b].ins.length c1, .int .i64 f.blocks[b].term.kind, .int .i64 f.blocks[b].term.a, .int .i64 f.blocks[b].term.t0, .int .i64 f.blocks[b].term.t1] 39) := ⟨_, rfl⟩
        have HS6 : Hid (SetAt W6 w3.heap.size 58 S) := Lib.hid (by rw [hW6]; exact HS1.out.alloc _)
        have HX7 : Hid (Below (w.heap.size + 1) w0 W6) := Lib.hid (by rw [hW6]; exact HX6.out.alloc (by have := HX6.out.size; have := Hz0.out; omega) _)
        have HG7 : Hid (W5.grownBy W6 (some w3.heap.size)) := Lib.hid (by rw [hW6]; exact grownBy_below HGr1.out ((Below.refl _ _).alloc (Nat.le_refl _) _) HGr1.out.size)
        have HK7 : Hid (∀ wr, W6.grownBy wr (some w3.heap.size) → wr.cell? ⟨wm.heap.size, 0, none⟩ = some (.slice A1 f.blocks[b].ins.length c1) ∧ wr.cell? ⟨wm.heap.size, 1, none⟩ = some (.int .i64 f.blocks[b].term.kind) ∧ wr.cell? ⟨wm.heap.size, 2, none⟩ = some (.int .i64 f.blocks[b].term.a) ∧ wr.cell? ⟨wm.heap.size, 3, none⟩ = some (.int .i64 f.blocks[b].term.t0) ∧ wr.cell? ⟨wm.heap.size, 4, none⟩ = some (.int .i64 f.blocks[b].term.t1)) := Lib.hid (fun wr hg => by
          have hne : wm.heap.size ≠ w3.heap.size := by have := HGN.out; omega
          have k : ∀ i, wr.cell? ⟨wm.heap.size, i, none⟩ = W6.cell? ⟨wm.heap.size, i, none⟩ := fun i => grownBy_cell hg (by rw [hW6]; simp) hne
          refine ⟨(k _).trans ?_, (k _).trans ?_, (k _).trans ?_, (k _).trans ?_, (k _).trans ?_⟩ <;> (rw [hW6]; simp [go_sem]))
        rw [← hW6]
        clear hW6 d0 d1 g0 g1 g2 g3 g4
        obtain ⟨g0, g1, g2, g3, g4⟩ := HK7.out _ (grownBy_refl _ _)
        go_wp2_with fail
        clear g0 g1 g2 g3 g4
        go_loopw [10] (fun jv wr => ∃ j : Nat, j ≤ f.blocks[b].ins.length ∧ jv = .int .i64 j ∧ SetAt wr w3.heap.size 58 (outF S (f.blocks[b].ins.take j)) ∧ W6.grownBy wr (some w3.heap.size)) (fun jv _ => f.blocks[b].ins.length - (intOf jv).toNat)
        case atStart => exact ⟨0, Nat.zero_le _, rfl, by simpa [outF] using HS6.out, grownBy_refl _ _⟩
        case round =>
          obtain ⟨j, hj, rfl, hs, hg⟩ := hrel
          have HS8 := Lib.hid hs
          have HG8 := Lib.hid hg
          have HX8 : Hid (Below (w.heap.size + 1) w0 wr) := Lib.hid (HX7.out.grown hg (by have := HX7.out.size; have := Hz0.out; omega) (fun j hj => by cases hj; exact HG.out))
          have HB8 : Hid (Below w.heap.size w wr) := Lib.hid (HW0.out.trans (HX8.out.mono (by omega)))
          have HL8 : Hid (w3.heap.size < wr.heap.size) := Lib.hid hs.lt
          clear hs hg
          obtain ⟨g0, g1, g2, g3, g4⟩ := HK7.out _ HG8.out
          by_cases hjl : j < f.blocks[b].ins.length
          · obtain ⟨b2, o2, A2, c2, hA2, hbs2, hat2⟩ := (HIw.out.below HB8.out).at j hjl
            subst hA2
            have e0 := hat2.c0
            have e1 := hat2.c1
            have e2 := hat2.c2
            have e3 := hat2.c3
            have e4 := hat2.c4
            have e5 := hat2.c5
            have e6 := hat2.c6
            have e7 := hat2.c7
            have HAt := Lib.hid hat2
            have ha8 := Hargs.out _ (List.getElem_mem hltb) _ (List.getElem_mem hjl)
            have Hrd := Lib.hid (HGood.out.reads HV.out j hjl)
            have hrl := readsL_len f.blocks[b].ins[j]
            clear hat2
            go_wp2_with (go_at_call 17; refine (reads_any _ A2 c2 f.blocks[b].ins[j] HAt.out.args (by omega)).mono ?_; rintro e w7 ⟨v7, rfl, hb7, hown7⟩; obtain ⟨A3, c3, rfl, hr3, _⟩ := ownsRow_RI_base hown7 (by omega); have HR3 := Lib.hid hr3; have HB7 := Lib.hid hb7; clear hr3 hown7 hb7)
            have hat7 := HAt.out.below hbs2 HB7.out
            clear e0 e1 e2 e3 e4 e5 e6 e7 g0 g1 g2 g3 g4
            have e0 := hat7.c0
            have e1 := hat7.c1
            have e2 := hat7.c2
            have e3 := hat7.c3
            have e4 := hat7.c4
            have e5 := hat7.c5
            have e6 := hat7.c6
            have e7 := hat7.c7
            have HAt7 := Lib.hid hat7.args
            clear hat7
            have HG9 : Hid (W6.grownBy w7 (some w3.heap.size)) := Lib.hid (grownBy_below HG8.out HB7.out HG8.out.size)
            have HS9 : Hid (SetAt w7 w3.heap.size 58 (outF S (f.blocks[b].ins.take j))) := Lib.hid (HS8.out.below HB7.out HL8.out)
            have HB9 : Hid (Below w.heap.size w w7) := Lib.hid (HB8.out.trans (HB7.out.mono HB8.out.size))
            obtain ⟨g0, g1, g2, g3, g4⟩ := HK7.out _ HG9.out
            go_loop [12] (fun kv => ∃ k : Nat, k ≤ (readsL f.blocks[b].ins[j]).length ∧ kv = .int .i64 k) (fun kv => (readsL f.blocks[b].ins[j]).length - (intOf kv).toNat)
            case atStart => exact ⟨0, Nat.zero_le _, rfl⟩
            case round =>
              obtain ⟨k, hk, rfl⟩ := hrel
              by_cases hkl : k < (readsL f.blocks[b].ins[j]).length
              · obtain ⟨b3, o3, hA3, hbs3, hc3⟩ := HR3.out.at k hkl
                subst hA3
                have hin := readsL_in f.blocks[b].ins[j] _ (List.getElem_mem hkl)
                have hsv := Hrd.out _ (List.getElem_mem hkl)
                obtain ⟨v, hv⟩ := Int.eq_ofNat_of_zero_le hin.1
                have hv1 : v < 201 := by omega
                rw [hv, Int.toNat_natCast] at hsv
                rw [hv] at hc3
                clear hv hin
                have hcs := HS9.out.cell v hv1
                rw [hsv] at hcs
                clear hsv
                go_wp2
                go_round
                case rel => exact ⟨k + 1, by omega, by go_num⟩
                case measure => simp [intOf]; omega
              · have hde := definesI_in f.blocks[b].ins[j]
                obtain ⟨v, hv⟩ := Int.eq_ofNat_of_zero_le hde.1
                have hv1 : v < 201 := by omega
                have Hv := Lib.hid hv
                clear hv hde
                go_wp2_with (go_at_call 26; refine (defines_any _ A2 c2 f.blocks[b].ins[j] HAt7.out).mono ?_; rintro e w8 ⟨rfl, hb8⟩; rw [Hv.out]; have HB10 : Hid (Below w.heap.size w w8) := Lib.hid (HB9.out.trans (hb8.mono HB9.out.size)); have HG10 : Hid (W6.grownBy w8 (some w3.heap.size)) := Lib.hid (grownBy_below HG9.out hb8 HG9.out.size); have HS10 : Hid (SetAt w8 w3.heap.size 58 (outF S (f.blocks[b].ins.take j))) := Lib.hid (HS9.out.below hb8 HS9.out.lt); have hcs := HS10.out.cell v hv1; have hfs := HS10.out.free v; clear hb8)
                go_roundw
                case rel =>
                  refine ⟨j + 1, by omega, by go_num, ?_, grownBy_setCell HG10.out _ _⟩
                  rw [take_snoc_eq _ j hjl, outF_snoc, Hv.out, Int.toNat_natCast]
                  exact HS10.out.stored v hv1 true
                case measure => simp [intOf]; omega
          · have hjl2 : j = f.blocks[b].ins.length := by omega
            subst hjl2
            have HSN : Hid (SetAt wr w3.heap.size 58 (outF S f.blocks[b].ins)) := Lib.hid (by have := HS8.out; rwa [List.take_length] at this)
            clear HS8
            have htl := toL_len f.blocks[b].term
            have Hnd := Lib.hid (HGood.out.needs HV.out)
            have HNc := Lib.hid (needsL_cases f.blocks[b].term)
            have hnl := needsL_len f.blocks[b].term
            rcases HNc.out with hN | ⟨v0, hN⟩
            · have HN := Lib.hid hN
              clear hN
              by_cases hT : toL f.blocks[b].term = []
              · have HT := Lib.hid hT
                clear hT
                go_wp2_with (first
                  | (go_at_call 18; refine (needs_any _ f.blocks[b].term).mono ?_; rintro e w9 ⟨v9, rfl, hb9, hown9⟩; rw [HN.out] at hown9; obtain ⟨A4, c4, rfl, hr4, _⟩ := ownsRow_RI_base hown9 (by simp); have HR4 := Lib.hid hr4; have HB9 := Lib.hid hb9; have HG9 : Hid (W6.grownBy w9 (some w3.heap.size)) := Lib.hid (grownBy_below HG8.out hb9 HG8.out.size); clear hr4 hown9 hb9 g0 g1 g2 g3 g4; obtain ⟨g0, g1, g2, g3, g4⟩ := HK7.out _ HG9.out)
                  | (go_at_call 19; refine (to_any _ f.blocks[b].term).mono ?_; rintro e w10 ⟨v10, rfl, hb10, hown10⟩; rw [HT.out] at hown10; obtain ⟨A5, c5, rfl, hr5, _⟩ := ownsRow_RI_base hown10 (by simp); have HR5 := Lib.hid hr5; have HB10 := Lib.hid hb10; have HG10 : Hid (W6.grownBy w10 (some w3.heap.size)) := Lib.hid (grownBy_below HG9.out hb10 HG9.out.size); have HS10 : Hid (SetAt w10 w3.heap.size 58 (outF S f.blocks[b].ins)) := Lib.hid ((HSN.out.below HB9.out HL8.out).below hb10 (HSN.out.below HB9.out HL8.out).lt); have HX10 : Hid (Below (w.heap.size + 1) w0 w10) := Lib.hid (HX7.out.grown HG10.out (by have := HX7.out.size; have := Hz0.out; omega) (fun j hj => by cases hj; exact HG.out)); have HBw : Hid (Below w.heap.size w w10) := Lib.hid (HW0.out.trans (HX10.out.mono (by omega))); clear hr5 hown10 hb10 g0 g1 g2 g3 g4; obtain ⟨d0, d1⟩ := HK.out _ HX10.out; skip))
                go_ret
                exact ⟨rfl, HBw.out⟩
              · have hT0 : 0 < (toL f.blocks[b].term).length := List.length_pos_iff.2 hT
                clear hT
                have hlz : (((toL f.blocks[b].term).length : Int) == 0) = false := by rw [beq_eq_false_iff_ne]; omega
                by_cases hnw : n = way.length
                · subst hnw
                  go_wp2_with (first
                    | (go_at_call 18; refine (needs_any _ f.blocks[b].term).mono ?_; rintro e w9 ⟨v9, rfl, hb9, hown9⟩; rw [HN.out] at hown9; obtain ⟨A4, c4, rfl, hr4, _⟩ := ownsRow_RI_base hown9 (by simp); have HR4 := Lib.hid hr4; have HB9 := Lib.hid hb9; have HG9 : Hid (W6.grownBy w9 (some w3.heap.size)) := Lib.hid (grownBy_below HG8.out hb9 HG8.out.size); clear hr4 hown9 hb9 g0 g1 g2 g3 g4; obtain ⟨g0, g1, g2, g3, g4⟩ := HK7.out _ HG9.out)
                    | (go_at_call 19; refine (to_any _ f.blocks[b].term).mono ?_; rintro e w10 ⟨v10, rfl, hb10, hown10⟩; obtain ⟨A5, c5, rfl, hr5, _⟩ := ownsRow_RI_base hown10 (by omega); have HR5 := Lib.hid hr5; have HB10 := Lib.hid hb10; have HG10 : Hid (W6.grownBy w10 (some w3.heap.size)) := Lib.hid (grownBy_below HG9.out hb10 HG9.out.size); have HS10 : Hid (SetAt w10 w3.heap.size 58 (outF S f.blocks[b].ins)) := Lib.hid ((HSN.out.below HB9.out HL8.out).below hb10 (HSN.out.below HB9.out HL8.out).lt); have HX10 : Hid (Below (w.heap.size + 1) w0 w10) := Lib.hid (HX7.out.grown HG10.out (by have := HX7.out.size; have := Hz0.out; omega) (fun j hj => by cases hj; exact HG.out)); have HBw : Hid (Below w.heap.size w w10) := Lib.hid (HW0.out.trans (HX10.out.mono (by omega))); clear hr5 hown10 hb10 g0 g1 g2 g3 g4; obtain ⟨d0, d1⟩ := HK.out _ HX10.out; skip))
                  go_ret
                  exact ⟨rfl, HBw.out⟩
                · have hnl2 : n < way.length := by omega
                  clear hnw
                  have hnz : ((n : Int) == (way.length : Int)) = false := by rw [beq_eq_false_iff_ne]; omega
                  have hrn := Hr.out _ (List.getElem_mem hnl2)
                  have hpk : pickI way[n] (toL f.blocks[b].term).length = way[n] % ((toL f.blocks[b].term).length : Int) := by unfold pickI; rw [if_neg (by omega)]
                  obtain ⟨q, hq⟩ := Int.eq_ofNat_of_zero_le (show 0 ≤ way[n] % ((toL f.blocks[b].term).length : Int) from Int.emod_nonneg _ (by omega))
                  have hql : q < (toL f.blocks[b].term).length := by have := Int.emod_lt_of_pos way[n] (show 0 < ((toL f.blocks[b].term).length : Int) by omega); omega
                  have HQ : Hid (pickI way[n] (toL f.blocks[b].term).length = (q : Int)) := Lib.hid (by rw [hpk, hq])
                  clear hpk hq
                  obtain ⟨u, hu, hu1, hgu⟩ := HGood.out.step HE.out (List.getElem_mem hql)
                  have hul := hgu.lt
                  have HU := Lib.hid hgu
                  have Hu := Lib.hid hu
                  clear hgu hu
                  go_wp2_with (first
                    | (go_at_call 18; refine (needs_any _ f.blocks[b].term).mono ?_; rintro e w9 ⟨v9, rfl, hb9, hown9⟩; rw [HN.out] at hown9; obtain ⟨A4, c4, rfl, hr4, _⟩ := ownsRow_RI_base hown9 (by simp); have HR4 := Lib.hid hr4; have HB9 := Lib.hid hb9; have HG9 : Hid (W6.grownBy w9 (some w3.heap.size)) := Lib.hid (grownBy_below HG8.out hb9 HG8.out.size); clear hr4 hown9 hb9 g0 g1 g2 g3 g4; obtain ⟨g0, g1, g2, g3, g4⟩ := HK7.out _ HG9.out)
                    | (go_at_call 19; refine (to_any _ f.blocks[b].term).mono ?_; rintro e w10 ⟨v10, rfl, hb10, hown10⟩; obtain ⟨A5, c5, rfl, hr5, _⟩ := ownsRow_RI_base hown10 (by omega); have HR5 := Lib.hid hr5; have HB10 := Lib.hid hb10; have HG10 : Hid (W6.grownBy w10 (some w3.heap.size)) := Lib.hid (grownBy_below HG9.out hb10 HG9.out.size); have HS10 : Hid (SetAt w10 w3.heap.size 58 (outF S f.blocks[b].ins)) := Lib.hid ((HSN.out.below HB9.out HL8.out).below hb10 (HSN.out.below HB9.out HL8.out).lt); have HX10 : Hid (Below (w.heap.size + 1) w0 w10) := Lib.hid (HX7.out.grown HG10.out (by have := HX7.out.size; have := Hz0.out; omega) (fun j hj => by cases hj; exact HG.out)); have HBw : Hid (Below w.heap.size w w10) := Lib.hid (HW0.out.trans (HX10.out.mono (by omega))); clear hr5 hown10 hb10 g0 g1 g2 g3 g4; obtain ⟨d0, d1⟩ := HK.out _ HX10.out; skip; obtain ⟨by5, oy5, hAy, hbsy, hcy⟩ := (Hy.out.below HBw.out).at n hnl2; subst hAy; obtain ⟨b5, o5, hA5, hbs5, hc5⟩ := HR5.out.at q hql; subst hA5; rw [Hu.out] at hc5)
                    | (go_at_call 33; refine (pick_any _ _ _ hrn.1 hrn.2 (by omega)).mono ?_; rintro e w11 ⟨rfl, rfl⟩; rw [HQ.out]))
                  go_roundw
                  case rel => exact ⟨u, n + 1, outF S f.blocks[b].ins, by omega, rfl, by go_num, HU, HS10.out, grownBy_two HG7.out HG10.out⟩
                  case measure => simp [intOf]; omega
            · have HN := Lib.hid hN
              have hvm : v0 ∈ needsL f.blocks[b].term := by rw [hN]; simp
              have hin := needsL_in f.blocks[b].term _ hvm
              have hsv := Hnd.out _ hvm
              obtain ⟨v, rfl⟩ := Int.eq_ofNat_of_zero_le hin.1
              have hv1 : v < 201 := by omega
              rw [Int.toNat_natCast] at hsv
              have HV2 := Lib.hid hsv
              clear hN hvm hin hsv
              by_cases hT : toL f.blocks[b].term = []
              · have HT := Lib.hid hT
                clear hT
                go_wp2_with (first
                  | (go_at_call 18; refine (needs_any _ f.blocks[b].term).mono ?_; rintro e w9 ⟨v9, rfl, hb9, hown9⟩; rw [HN.out] at hown9; obtain ⟨A4, c4, rfl, hr4, _⟩ := ownsRow_RI_base hown9 (by simp); have HR4 := Lib.hid hr4; have HB9 := Lib.hid hb9; have HG9 : Hid (W6.grownBy w9 (some w3.heap.size)) := Lib.hid (grownBy_below HG8.out hb9 HG8.out.size); clear hr4 hown9 hb9 g0 g1 g2 g3 g4; obtain ⟨g0, g1, g2, g3, g4⟩ := HK7.out _ HG9.out)
                  | (go_at_call 19; refine (to_any _ f.blocks[b].term).mono ?_; rintro e w10 ⟨v10, rfl, hb10, hown10⟩; rw [HT.out] at hown10; obtain ⟨A5, c5, rfl, hr5, _⟩ := ownsRow_RI_base hown10 (by simp); have HR5 := Lib.hid hr5; have HB10 := Lib.hid hb10; have HG10 : Hid (W6.grownBy w10 (some w3.heap.size)) := Lib.hid (grownBy_below HG9.out hb10 HG9.out.size); have HS10 : Hid (SetAt w10 w3.heap.size 58 (outF S f.blocks[b].ins)) := Lib.hid ((HSN.out.below HB9.out HL8.out).below hb10 (HSN.out.below HB9.out HL8.out).lt); have HX10 : Hid (Below (w.heap.size + 1) w0 w10) := Lib.hid (HX7.out.grown HG10.out (by have := HX7.out.size; have := Hz0.out; omega) (fun j hj => by cases hj; exact HG.out)); have HBw : Hid (Below w.heap.size w w10) := Lib.hid (HW0.out.trans (HX10.out.mono (by omega))); clear hr5 hown10 hb10 g0 g1 g2 g3 g4; obtain ⟨d0, d1⟩ := HK.out _ HX10.out; obtain ⟨b4, o4, hA4, hbs4, hc4⟩ := (HR4.out.below HB10.out).at 0 (by simp); subst hA4; simp only [List.getElem_cons_zero, Nat.add_zero] at hc4; have hcs := HS10.out.cell v hv1; rw [HV2.out] at hcs))
                go_ret
                exact ⟨rfl, HBw.out⟩
              · have hT0 : 0 < (toL f.blocks[b].term).length := List.length_pos_iff.2 hT
                clear hT
                have hlz : (((toL f.blocks[b].term).length : Int) == 0) = false := by rw [beq_eq_false_iff_ne]; omega
                by_cases hnw : n = way.length
                · subst hnw
                  go_wp2_with (first
                    | (go_at_call 18; refine (needs_any _ f.blocks[b].term).mono ?_; rintro e w9 ⟨v9, rfl, hb9, hown9⟩; rw [HN.out] at hown9; obtain ⟨A4, c4, rfl, hr4, _⟩ := ownsRow_RI_base hown9 (by simp); have HR4 := Lib.hid hr4; have HB9 := Lib.hid hb9; have HG9 : Hid (W6.grownBy w9 (some w3.heap.size)) := Lib.hid (grownBy_below HG8.out hb9 HG8.out.size); clear hr4 hown9 hb9 g0 g1 g2 g3 g4; obtain ⟨g0, g1, g2, g3, g4⟩ := HK7.out _ HG9.out)
                    | (go_at_call 19; refine (to_any _ f.blocks[b].term).mono ?_; rintro e w10 ⟨v10, rfl, hb10, hown10⟩; obtain ⟨A5, c5, rfl, hr5, _⟩ := ownsRow_RI_base hown10 (by omega); have HR5 := Lib.hid hr5; have HB10 := Lib.hid hb10; have HG10 : Hid (W6.grownBy w10 (some w3.heap.size)) := Lib.hid (grownBy_below HG9.out hb10 HG9.out.size); have HS10 : Hid (SetAt w10 w3.heap.size 58 (outF S f.blocks[b].ins)) := Lib.hid ((HSN.out.below HB9.out HL8.out).below hb10 (HSN.out.below HB9.out HL8.out).lt); have HX10 : Hid (Below (w.heap.size + 1) w0 w10) := Lib.hid (HX7.out.grown HG10.out (by have := HX7.out.size; have := Hz0.out; omega) (fun j hj => by cases hj; exact HG.out)); have HBw : Hid (Below w.heap.size w w10) := Lib.hid (HW0.out.trans (HX10.out.mono (by omega))); clear hr5 hown10 hb10 g0 g1 g2 g3 g4; obtain ⟨d0, d1⟩ := HK.out _ HX10.out; obtain ⟨b4, o4, hA4, hbs4, hc4⟩ := (HR4.out.below HB10.out).at 0 (by simp); subst hA4; simp only [List.getElem_cons_zero, Nat.add_zero] at hc4; have hcs := HS10.out.cell v hv1; rw [HV2.out] at hcs))
                  go_ret
                  exact ⟨rfl, HBw.out⟩
                · have hnl2 : n < way.length := by omega
                  clear hnw
                  have hnz : ((n : Int) == (way.length : Int)) = false := by rw [beq_eq_false_iff_ne]; omega
                  have hrn := Hr.out _ (List.getElem_mem hnl2)
                  have hpk : pickI way[n] (toL f.blocks[b].term).length = way[n] % ((toL f.blocks[b].term).length : Int) := by unfold pickI; rw [if_neg (by omega)]
                  obtain ⟨q, hq⟩ := Int.eq_ofNat_of_zero_le (show 0 ≤ way[n] % ((toL f.blocks[b].term).length : Int) from Int.emod_nonneg _ (by omega))
                  have hql : q < (toL f.blocks[b].term).length := by have := Int.emod_lt_of_pos way[n] (show 0 < ((toL f.blocks[b].term).length : Int) by omega); omega
                  have HQ : Hid (pickI way[n] (toL f.blocks[b].term).length = (q : Int)) := Lib.hid (by rw [hpk, hq])
                  clear hpk hq
                  obtain ⟨u, hu, hu1, hgu⟩ := HGood.out.step HE.out (List.getElem_mem hql)
                  have hul := hgu.lt
                  have HU := Lib.hid hgu
                  have Hu := Lib.hid hu
                  clear hgu hu
                  go_wp2_with (first
                    | (go_at_call 18; refine (needs_any _ f.blocks[b].term).mono ?_; rintro e w9 ⟨v9, rfl, hb9, hown9⟩; rw [HN.out] at hown9; obtain ⟨A4, c4, rfl, hr4, _⟩ := ownsRow_RI_base hown9 (by simp); have HR4 := Lib.hid hr4; have HB9 := Lib.hid hb9; have HG9 : Hid (W6.grownBy w9 (some w3.heap.size)) := Lib.hid (grownBy_below HG8.out hb9 HG8.out.size); clear hr4 hown9 hb9 g0 g1 g2 g3 g4; obtain ⟨g0, g1, g2, g3, g4⟩ := HK7.out _ HG9.out)
                    | (go_at_call 19; refine (to_any _ f.blocks[b].term).mono ?_; rintro e w10 ⟨v10, rfl, hb10, hown10⟩; obtain ⟨A5, c5, rfl, hr5, _⟩ := ownsRow_RI_base hown10 (by omega); have HR5 := Lib.hid hr5; have HB10 := Lib.hid hb10; have HG10 : Hid (W6.grownBy w10 (some w3.heap.size)) := Lib.hid (grownBy_below HG9.out hb10 HG9.out.size); have HS10 : Hid (SetAt w10 w3.heap.size 58 (outF S f.blocks[b].ins)) := Lib.hid ((HSN.out.below HB9.out HL8.out).below hb10 (HSN.out.below HB9.out HL8.out).lt); have HX10 : Hid (Below (w.heap.size + 1) w0 w10) := Lib.hid (HX7.out.grown HG10.out (by have := HX7.out.size; have := Hz0.out; omega) (fun j hj => by cases hj; exact HG.out)); have HBw : Hid (Below w.heap.size w w10) := Lib.hid (HW0.out.trans (HX10.out.mono (by omega))); clear hr5 hown10 hb10 g0 g1 g2 g3 g4; obtain ⟨d0, d1⟩ := HK.out _ HX10.out; obtain ⟨b4, o4, hA4, hbs4, hc4⟩ := (HR4.out.below HB10.out).at 0 (by simp); subst hA4; simp only [List.getElem_cons_zero, Nat.add_zero] at hc4; have hcs := HS10.out.cell v hv1; rw [HV2.out] at hcs; obtain ⟨by5, oy5, hAy, hbsy, hcy⟩ := (Hy.out.below HBw.out).at n hnl2; subst hAy; obtain ⟨b5, o5, hA5, hbs5, hc5⟩ := HR5.out.at q hql; subst hA5; rw [Hu.out] at hc5)
                    | (go_at_call 33; refine (pick_any _ _ _ hrn.1 hrn.2 (by omega)).mono ?_; rintro e w11 ⟨rfl, rfl⟩; rw [HQ.out]))
                  go_roundw
                  case rel => exact ⟨u, n + 1, outF S f.blocks[b].ins, by omega, rfl, by go_num, HU, HS10.out, grownBy_two HG7.out HG10.out⟩
                  case measure => simp [intOf]; omega
end Go.Proofs.Ytddgdimjijefhaa
