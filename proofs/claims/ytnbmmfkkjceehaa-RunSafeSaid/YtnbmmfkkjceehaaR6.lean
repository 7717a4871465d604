/- Contract: run.copied, a function in memory of its own. -/
import Derived.Test.YtnbmmfkkjceehaaR5
import Derived.Test.YtnbmmfkkjceehaaD6
import Derived.Test.YtnbmmfkkjceehaaD11
import Derived.Deep.CutBlock
namespace Go.Proofs.Ytnbmmfkkjceehaa
set_option linter.unusedSimpArgs false
set_option linter.unusedVariables false
open Go.RowKit

/-- A function that is not too long. -/
structure Small (f : FnD) : Prop where
  params : f.params.length ≤ 8
  blocks : f.blocks.length ≤ 200
  ins : ∀ x ∈ f.blocks, x.ins.length ≤ 64
  args : ∀ x ∈ f.blocks, ∀ i ∈ x.ins, i.args.length ≤ 8
def RetFn (f : FnD) (w : World) (e : Ending) (w' : World) : Prop := ∃ A c B d, e = .returned (fnV A c B d f) ∧ Below w.heap.size w w' ∧ RIQ (w.heap.size ≤ ·) w' A c f.params ∧ RBlkQ (w.heap.size ≤ ·) w' B d f.blocks
set_option maxHeartbeats 4000000 in
set_option maxRecDepth 100000 in
theorem copied_any (w : World) (A : Option Addr) (c : Nat) (B : Option Addr) (d : Nat) (f : FnD) (hp : RI w A c f.params) (h : RBlk w B d f.blocks) (hs : Small f) : Calls Try.prog 27 #[fnV A c B d f] w (RetFn f w) := by
  obtain ⟨hs1, hs2, hs3, hs4⟩ := hs
  have Hs3 := Lib.hid hs3
  have Hs4 := Lib.hid hs4
  have Hp := Lib.hid hp
  have H := Lib.hid h
  obtain ⟨vs, hd, hrv, hcb, hri⟩ := h.raw
  have HV := Lib.hid hrv
  have HC := Lib.hid hcb
  have HI := Lib.hid hri
  clear hp h hs3 hs4 hrv hcb hri
  simp only [fnV]
  go_enter Try.func27, Try.ntmps27
  go_upto_region 1 with fail
  obtain ⟨W2, hW2⟩ : ∃ W2 : World, W2 = (w.alloc (.cells #[.slice A f.params.length c, .slice B f.blocks.length d] 30)).alloc (.cells #[.slice none 0 0, .slice none 0 0] 30) := ⟨_, rfl⟩
  have Hz2 : Hid (W2.heap.size = w.heap.size + 1 + 1) := Lib.hid (by rw [hW2]; simp)
  have HB2 : Hid (Below w.heap.size w W2) := Lib.hid (by rw [hW2]; go_grown)
  have HC2 : Hid (W2.cell? ⟨w.heap.size, 0, none⟩ = some (.slice A f.params.length c) ∧ W2.cell? ⟨w.heap.size, 1, none⟩ = some (.slice B f.blocks.length d) ∧ W2.cell? ⟨w.heap.size + 1, 0, none⟩ = some (.slice none 0 0) ∧ W2.cell? ⟨w.heap.size + 1, 1, none⟩ = some (.slice none 0 0) ∧ ∀ o, W2.frozen? ⟨w.heap.size, o, none⟩ = false ∧ W2.frozen? ⟨w.heap.size + 1, o, none⟩ = false) := Lib.hid (by rw [hW2]; exact ⟨by simp [go_sem], by simp [go_sem], by simp [go_sem], by simp [go_sem], fun o => ⟨by simp [go_sem], by simp [go_sem]⟩⟩)
  rw [← hW2]
  clear hW2
  go_cut [] from 6 to 13 (fun wc => ∃ A1 c1 v2, wc.cell? ⟨w.heap.size, 0, none⟩ = some (.slice A1 f.params.length c1) ∧ wc.cell? ⟨w.heap.size, 1, none⟩ = some v2 ∧ RIQ (fun b => W2.heap.size ≤ b ∧ some b ≠ v2.ownBlock) wc A1 c1 f.params ∧ wc.ownsRow W2.heap.size 55 5 v2 f.blocks.length vs ∧ Below w.heap.size w wc ∧ (∀ b o, b < W2.heap.size → b ≠ w.heap.size → wc.cell? ⟨b, o, none⟩ = W2.cell? ⟨b, o, none⟩ ∧ wc.frozen? ⟨b, o, none⟩ = W2.frozen? ⟨b, o, none⟩) ∧ W2.heap.size ≤ wc.heap.size ∧ ∀ o, wc.frozen? ⟨w.heap.size, o, none⟩ = false)
  case first =>
    have hlt0 : w.heap.size < W2.heap.size := by rw [Hz2.out]; omega
    refine wp_region_gated (fun w' => w'.cell? ⟨w.heap.size, 0, none⟩ = some (.slice A f.params.length c) ∧ w'.cell? ⟨w.heap.size, 1, none⟩ = some (.slice B f.blocks.length d)) 7 (by kernel_rfl) ⟨HC2.out.1, HC2.out.2.1⟩ (fun hHeld => ?_)
    refine wpAnyG_take 0 (v := ?_) rfl (by kernel_rfl) (by kernel_rfl) (by kernel_rfl) (by kernel_rfl) (by kernel_rfl) (by kernel_rfl) (fun _ _ _ h => h) (Or.inl ⟨by rfl, ?_⟩) (by assumption) ?_
    rotate_left
    · (intro w hSw; (try dsimp only at hSw); go_simp; (try with_reducible rfl))
    try simp only [Act.put, List.getElem_toArray, List.getElem_cons_zero, List.getElem_cons_succ, List.setIfInBounds_toArray, List.set_cons_zero, List.set_cons_succ]
    refine wpAnyG_take 1 (v := ?_) rfl (by kernel_rfl) (by kernel_rfl) (by kernel_rfl) (by kernel_rfl) (by kernel_rfl) (by kernel_rfl) (fun _ _ _ h => h) (Or.inl ⟨by rfl, ?_⟩) (by assumption) ?_
    rotate_left
    · (intro w hSw; (try dsimp only at hSw); go_simp; (try with_reducible rfl))
    try simp only [Act.put, List.getElem_toArray, List.getElem_cons_zero, List.getElem_cons_succ, List.setIfInBounds_toArray, List.set_cons_zero, List.set_cons_succ]
    refine wpAnyG_take 3 (v := ?_) rfl (by kernel_rfl) (by kernel_rfl) (by kernel_rfl) (by kernel_rfl) (by kernel_rfl) (by kernel_rfl) (fun _ _ _ h => h) (Or.inl ⟨by rfl, ?_⟩) (by assumption) ?_
    rotate_left
    · (intro w hSw; (try dsimp only at hSw); go_simp; (try with_reducible rfl))
    try simp only [Act.put, List.getElem_toArray, List.getElem_cons_zero, List.getElem_cons_succ, List.setIfInBounds_toArray, List.set_cons_zero, List.set_cons_succ]
    refine wpAnyG_take 4 (v := ?_) rfl (by kernel_rfl) (by kernel_rfl) (by kernel_rfl) (by kernel_rfl) (by kernel_rfl) (by kernel_rfl) (fun _ _ _ h => h) (Or.inl ⟨by rfl, ?_⟩) (by assumption) ?_
    rotate_left
    · (intro w hSw; (try dsimp only at hSw); go_simp; (try with_reducible rfl))
    try simp only [Act.put, List.getElem_toArray, List.getElem_cons_zero, List.getElem_cons_succ, List.setIfInBounds_toArray, List.set_cons_zero, List.set_cons_succ]
    refine wpAnyG_one 2 (by kernel_rfl) rfl (fun K hK => ?_)
    go_simp
    go_at_call 28
    refine (clone_any _ A c f.params (Hp.out.below (HB2.out.drew)) (by omega)).mono ?_
    rintro e w1 ⟨v1, rfl, hb1, hown1⟩
    have hb1 : Below W2.heap.size W2 w1 := (Below.refl W2.heap.size W2).drew.trans hb1
    obtain ⟨A1, c1, rfl, hq1⟩ := RIQ.of_own hown1 (by omega)
    have HO1 : Hid (RIQ (W2.heap.size ≤ ·) w1 A1 c1 f.params) := Lib.hid hq1
    have HB1 : Hid (Below W2.heap.size W2 w1) := Lib.hid hb1
    have d0 := (hb1.cell (p := ⟨w.heap.size, 0, none⟩) hlt0).trans HC2.out.1
    have d1 := (hb1.cell (p := ⟨w.heap.size, 1, none⟩) hlt0).trans HC2.out.2.1
    clear hown1 hb1 hq1
    go_wp2_with fail
    refine hK.out _ _ (⟨d0, d1⟩) (fun hHeld => ?_)
    clear hK K
    try simp only [Act.put, List.getElem_toArray, List.getElem_cons_zero, List.getElem_cons_succ, List.setIfInBounds_toArray, List.set_cons_zero, List.set_cons_succ]
    refine wpAnyG_take 6 (v := ?_) rfl (by kernel_rfl) (by kernel_rfl) (by kernel_rfl) (by kernel_rfl) (by kernel_rfl) (by kernel_rfl) (fun _ _ _ h => h) (Or.inl ⟨by rfl, ?_⟩) (by assumption) ?_
    rotate_left
    · (intro w hSw; (try dsimp only at hSw); go_simp; (try with_reducible rfl))
    try simp only [Act.put, List.getElem_toArray, List.getElem_cons_zero, List.getElem_cons_succ, List.setIfInBounds_toArray, List.set_cons_zero, List.set_cons_succ]
    refine wpAnyG_one 5 (by kernel_rfl) rfl (fun K hK => ?_)
    go_simp
    go_at_call 38
    refine (cloneBlk_any _ B d _ vs (HV.out.below (HB2.out.trans (HB1.out.mono HB2.out.size))) HC.out.one (by omega)).mono ?_
    rintro e w2 ⟨v2, rfl, hb2, hown2⟩
    obtain ⟨A2, c2, rfl, _⟩ := own_slice hown2
    have HO1 : Hid (RIQ (fun b => W2.heap.size ≤ b ∧ some b ≠ (Value.slice A2 f.blocks.length c2).ownBlock) w1 A1 c1 f.params) := Lib.hid (HO1.out.imp (fun b hlt hb => ⟨hb, fun e => by have := (hown2.lt _ e.symm).1; omega⟩))
    have HO2 : Hid (w2.ownsRow W2.heap.size 55 5 (.slice A2 f.blocks.length c2) f.blocks.length vs) := Lib.hid (ownsRow_weaken hown2 HB1.out.size)
    have HB3 := Lib.hid hb2
    have hlt1 : w.heap.size < w1.heap.size := Nat.lt_of_lt_of_le hlt0 HB1.out.size
    have e0 := (hb2.cell (p := ⟨w.heap.size, 0, none⟩) hlt1).trans d0
    have e1 := (hb2.cell (p := ⟨w.heap.size, 1, none⟩) hlt1).trans d1
    have f0 : ∀ o, w2.frozen? ⟨w.heap.size, o, none⟩ = false := fun o => ((hb2.frozen (p := ⟨w.heap.size, o, none⟩) hlt1).trans (HB1.out.frozen (p := ⟨w.heap.size, o, none⟩) hlt0)).trans (HC2.out.2.2.2.2 o).1
    have HF0 := Lib.hid f0
    have g0 := f0 0
    have g1 := f0 1
    clear hown2 hb2 d0 d1 f0
    go_wp2_with fail
    refine hK.out _ _ (⟨e0, e1⟩) (fun hHeld => ?_)
    clear hK K
    try simp only [Act.put, List.getElem_toArray, List.getElem_cons_zero, List.getElem_cons_succ, List.setIfInBounds_toArray, List.set_cons_zero, List.set_cons_succ]
    refine wpAnyG_past 7 (by kernel_rfl) rfl (by kernel_rfl) (fun K hK => ?_)
    go_simp
    refine hK.out _ _ ?_
    clear hK K
    try simp only [Act.put, List.getElem_toArray, List.getElem_cons_zero, List.getElem_cons_succ, List.setIfInBounds_toArray, List.set_cons_zero, List.set_cons_succ]
    refine wpAnyG_past 8 (by kernel_rfl) rfl (by kernel_rfl) (fun K hK => ?_)
    go_simp
    refine hK.out _ _ ?_
    clear hK K
    try simp only [Act.put, List.getElem_toArray, List.getElem_cons_zero, List.getElem_cons_succ, List.setIfInBounds_toArray, List.set_cons_zero, List.set_cons_succ]
    refine wpAnyG_past 9 (by kernel_rfl) rfl (by kernel_rfl) (fun K hK => ?_)
    go_simp
    refine hK.out _ _ ?_
    clear hK K
    try simp only [Act.put, List.getElem_toArray, List.getElem_cons_zero, List.getElem_cons_succ, List.setIfInBounds_toArray, List.set_cons_zero, List.set_cons_succ]
    refine wpAnyG_done (by kernel_rfl) ?_ _
    go_wp2_with fail
    go_meet
    case rel =>
      have hk1 : KeepQ (fun b => W2.heap.size ≤ b ∧ some b ≠ (Value.slice A2 f.blocks.length c2).ownBlock) w1 ((w2.setCell ⟨w.heap.size, 0, none⟩ (.slice A1 f.params.length c1)).setCell ⟨w.heap.size, 1, none⟩ (.slice A2 f.blocks.length c2)) := ⟨by simpa [World.setCell] using HB3.out.size, fun b hb hlt => by
        have hne : b ≠ w.heap.size := by have := hb.1; omega
        rw [Below.heap_setCell _ _ _ _ hne, Below.heap_setCell _ _ _ _ hne]
        exact HB3.out.block b hlt⟩
      refine ⟨A1, c1, .slice A2 f.blocks.length c2, by simp [go_sem, e0], by simp [go_sem, e1], HO1.out.keep hk1, ?_, ?_, ?_, ?_, ?_⟩
      · refine HO2.out.kept (row := some w.heap.size) (grownBy_setCell (grownBy_setCell (grownBy_refl _ _) _ _) _ _) ?_
        by_cases hn : (Value.slice A2 f.blocks.length c2).ownBlock = none
        · exact .inl hn
        · refine .inr (fun e => ?_)
          have := (HO2.out.lt _ e).1
          omega
      · exact (((HB2.out.trans (HB1.out.mono HB2.out.size)).trans (HB3.out.mono (by have := HB1.out.size; have := HB2.out.size; omega))).setCell (Nat.le_refl _) _).setCell (Nat.le_refl _) _
      · intro b o hb hne
        have h1 := (HB3.out.cell (p := ⟨b, o, none⟩) (Nat.lt_of_lt_of_le hb HB1.out.size)).trans (HB1.out.cell (p := ⟨b, o, none⟩) hb)
        have h2 := (HB3.out.frozen (p := ⟨b, o, none⟩) (Nat.lt_of_lt_of_le hb HB1.out.size)).trans (HB1.out.frozen (p := ⟨b, o, none⟩) hb)
        refine ⟨?_, ?_⟩
        · rw [World.cell?_setCell_far _ _ _ _ (by simpa using fun e => hne e.symm), World.cell?_setCell_far _ _ _ _ (by simpa using fun e => hne e.symm)]; exact h1
        · rw [World.frozen?_setCell, World.frozen?_setCell]; exact h2
      · have := HB3.out.size; have := HB1.out.size; simp [World.setCell]; omega
      · intro o; rw [World.frozen?_setCell, World.frozen?_setCell]; exact HF0.out o
  case rest =>
    obtain ⟨A1, c1, v2, e0, e1, hq, ho, hb, hcc, hz, hf⟩ := hcut
    obtain ⟨A2, c2, rfl, _⟩ := own_slice ho
    have HQ := Lib.hid hq
    have HO := Lib.hid ho
    have HBc := Lib.hid hb
    have HCC := Lib.hid hcc
    have HF := Lib.hid hf
    have hlt0 : w.heap.size + 1 < W2.heap.size := by rw [Hz2.out]; omega
    have HK0 : Hid (∀ wr, wc.grownBy wr (Value.slice A2 f.blocks.length c2).ownBlock → wr.cell? ⟨w.heap.size, 0, none⟩ = some (.slice A1 f.params.length c1) ∧ wr.cell? ⟨w.heap.size, 1, none⟩ = some (.slice A2 f.blocks.length c2) ∧ wr.cell? ⟨w.heap.size + 1, 0, none⟩ = some (.slice none 0 0) ∧ wr.cell? ⟨w.heap.size + 1, 1, none⟩ = some (.slice none 0 0) ∧ ∀ o, wr.frozen? ⟨w.heap.size + 1, o, none⟩ = false) := Lib.hid (fun wr hg => by
      have hne : ∀ b, b < W2.heap.size → some b ≠ (Value.slice A2 f.blocks.length c2).ownBlock := fun b hb e => by have := (HO.out.lt _ e.symm).1; omega
      have k : ∀ b o, b < W2.heap.size → wr.cell? ⟨b, o, none⟩ = wc.cell? ⟨b, o, none⟩ := fun b o hb => World.cell?_of_block (hg.block b (by omega) (hne b hb))
      have k2 : ∀ b o, b < W2.heap.size → wr.frozen? ⟨b, o, none⟩ = wc.frozen? ⟨b, o, none⟩ := fun b o hb => by
        have := hg.block b (by omega) (hne b hb)
        unfold World.frozen?
        simp only [this]
      refine ⟨(k _ _ (by omega)).trans e0, (k _ _ (by omega)).trans e1, ((k _ _ hlt0).trans (HCC.out _ _ hlt0 (by omega)).1).trans HC2.out.2.2.1, ((k _ _ hlt0).trans (HCC.out _ _ hlt0 (by omega)).1).trans HC2.out.2.2.2.1, fun o => ((k2 _ _ hlt0).trans (HCC.out _ _ hlt0 (by omega)).2).trans (HC2.out.2.2.2.2 o).2⟩)
    clear hq ho hb hcc hf
    go_wp2_with fail
    clear e0 e1
    go_loopw [17] (fun kv wr => ∃ k : Nat, k ≤ f.blocks.length ∧ kv = .int .i64 k ∧ ∃ vs' hd', wr.ownsRow W2.heap.size 55 5 (.slice A2 f.blocks.length c2) f.blocks.length vs' ∧ Hid (CBlk vs' f.blocks hd') ∧ Hid (∀ j x, f.blocks[j]? = some x → j < k → RInsQ (wc.heap.size ≤ ·) wr (hd' j).1 (hd' j).2 x.ins) ∧ Hid (∀ j, k ≤ j → hd' j = hd j) ∧ wc.grownBy wr (Value.slice A2 f.blocks.length c2).ownBlock) (fun kv _ => f.blocks.length - (intOf kv).toNat)
    case atStart => exact ⟨0, Nat.zero_le _, rfl, vs, hd, HO.out, HC, Lib.hid (fun j x _ h => by omega), Lib.hid (fun _ _ => rfl), ⟨rfl, rfl, rfl, Nat.le_refl _, fun _ _ _ => rfl⟩⟩
    case round =>
      obtain ⟨k, hk, rfl, vs', hd', ho, HC', HR', HD', hg⟩ := hrel
      have HO' := Lib.hid ho
      have HG' := Lib.hid hg
      clear ho hg
      obtain ⟨d0, d1, d2, d3, d4⟩ := HK0.out _ HG'.out
      by_cases hlt : k < f.blocks.length
      · obtain ⟨g2, cap2, hv2, hg2, hg2l⟩ := HO'.out.form (by omega)
        obtain ⟨rfl, rfl⟩ : A2 = some ⟨g2, 0, none⟩ ∧ c2 = cap2 := by injection hv2 with h1 _ h2; exact ⟨h1, h2⟩
        have hcell : wr.cell? ⟨g2, k * 5, none⟩ = some (.slice (hd k).1 f.blocks[k].ins.length (hd k).2) := by
          have := own_cells HO'.out _ _ (HC'.out.2 k _ (List.getElem?_eq_getElem hlt) 0 _ rfl)
          rwa [HD'.out k (Nat.le_refl _)] at this
        have hri := HI.out k _ (List.getElem?_eq_getElem hlt)
        have hm := Hs3.out _ (List.getElem_mem hlt)
        obtain ⟨vi, hdi, hrvi, hci, hria⟩ := hri.raw
        have HVi := Lib.hid hrvi
        have HCi := Lib.hid hci
        have HRi := Lib.hid hria
        clear hv2 hri hrvi hci hria
        obtain ⟨hA, hc, hhd⟩ : ∃ hA hc, hd k = (hA, hc) := ⟨_, _, rfl⟩
        have Hhd := Lib.hid hhd
        simp only [hhd] at hcell
        have HVi' : Hid (RV w hA hc f.blocks[k].ins.length 8 vi) := Lib.hid (by have := HVi.out; rwa [hhd] at this)
        have hbr : Below w.heap.size w wr := HBc.out.grown HG'.out HBc.out.size (fun j hj => Nat.le_trans HB2.out.size (HO'.out.lt j hj).1)
        have HBr := Lib.hid hbr
        clear hhd hbr HVi
        obtain ⟨wo, hwo⟩ : ∃ wo : World, wo = wr := ⟨_, rfl⟩
        subst hwo
        go_wp2_with (go_at_call 39; refine (cloneIns_any _ hA hc _ vi (HVi'.out.below HBr.out) HCi.out.one (by omega)).mono ?_; rintro e w4 ⟨v4, rfl, hb4, ho4⟩; obtain ⟨A4, c4, rfl, _⟩ := own_slice ho4; have HB4 := Lib.hid hb4; have HO4 := Lib.hid ho4; clear hb4 ho4)
        clear d0 d1 d2 d3 d4 hcell
        have hz4 : wc.heap.size ≤ w4.heap.size := Nat.le_trans HG'.out.size HB4.out.size
        go_loopw [29] (fun iv wr => ∃ i : Nat, i ≤ f.blocks[k].ins.length ∧ iv = .int .i64 i ∧ ∃ vi' hdi', wr.ownsRow wo.heap.size 59 8 (.slice A4 f.blocks[k].ins.length c4) f.blocks[k].ins.length vi' ∧ Hid (CIns vi' f.blocks[k].ins hdi') ∧ Hid (∀ j a, f.blocks[k].ins[j]? = some a → j < i → RIQ (fun b => w4.heap.size ≤ b) wr (hdi' j).1 (hdi' j).2 a.args) ∧ Hid (∀ j, i ≤ j → hdi' j = hdi j) ∧ w4.grownBy wr (Value.slice A4 f.blocks[k].ins.length c4).ownBlock) (fun iv _ => f.blocks[k].ins.length - (intOf iv).toNat)
        case atStart => exact ⟨0, Nat.zero_le _, rfl, vi, hdi, HO4.out, HCi, Lib.hid (fun j x _ h => by omega), Lib.hid (fun _ _ => rfl), ⟨rfl, rfl, rfl, Nat.le_refl _, fun _ _ _ => rfl⟩⟩
        case round =>
          obtain ⟨i, hi, rfl, vi', hdi', ho5, HC5, HR5, HD5, hg5⟩ := hrel
          have HO5 := Lib.hid ho5
          have HG5 := Lib.hid hg5
          have HG5b : Hid (Below wo.heap.size wo wr) := Lib.hid ((HB4.out).grown hg5 HB4.out.size (fun j hj => by have := (HO5.out.lt _ hj).1; omega))
          clear ho5 hg5
          by_cases hil : i < f.blocks[k].ins.length
          · obtain ⟨g4, cap4, hv4, hg4, hg4l⟩ := HO5.out.form (by omega)
            obtain ⟨rfl, rfl⟩ : A4 = some ⟨g4, 0, none⟩ ∧ c4 = cap4 := by injection hv4 with h1 _ h2; exact ⟨h1, h2⟩
            have hg4l4 : g4 < w4.heap.size := (HO4.out.lt g4 rfl).2
            obtain ⟨hA5, hc5, hhd5⟩ : ∃ hA hc, hdi i = (hA, hc) := ⟨_, _, rfl⟩
            have hcell : wr.cell? ⟨g4, i * 8 + 6, none⟩ = some (.slice hA5 f.blocks[k].ins[i].args.length hc5) := by
              have := own_cells HO5.out _ _ (HC5.out.2 i _ (List.getElem?_eq_getElem hil) 6 _ rfl)
              rw [HD5.out i (Nat.le_refl _), hhd5] at this
              exact this
            have hfz := HO5.out.frozenAt (i * 8 + 6)
            have ha8 := Hs4.out _ (List.getElem_mem hlt) _ (List.getElem_mem hil)
            have HRa : Hid (RI w hA5 hc5 f.blocks[k].ins[i].args) := Lib.hid (by have := HRi.out i _ (List.getElem?_eq_getElem hil); rwa [hhd5] at this)
            clear hhd5 hv4
            go_wp2_with (go_at_call 28; refine (clone_any _ hA5 hc5 f.blocks[k].ins[i].args (HRa.out.below (HBr.out.trans (HG5b.out.mono HBr.out.size))) (by omega)).mono ?_; rintro e w6 ⟨v6, rfl, hb6, ho6⟩; obtain ⟨A6, c6, rfl, hq6⟩ := RIQ.of_own ho6 (by omega); have HQ6 := Lib.hid hq6; have HB6 := Lib.hid hb6; have hcell6 := (hb6.cell (p := ⟨g4, i * 8 + 6, none⟩) (Nat.lt_of_lt_of_le hg4l (Nat.le_refl _))).trans hcell; have hfz6 := (hb6.frozen (p := ⟨g4, i * 8 + 6, none⟩) (Nat.lt_of_lt_of_le hg4l (Nat.le_refl _))).trans hfz; clear hb6 ho6 hq6)
            go_roundw
            case rel =>
              have hst := (ownsRow_below HO5.out HB6.out).stored (i * 8 + 6) (.slice A6 f.blocks[k].ins[i].args.length c6)
              have hgr : wr.grownBy (w6.setCell ⟨g4, i * 8 + 6, none⟩ (.slice A6 f.blocks[k].ins[i].args.length c6)) (some g4) := grownBy_setCell (grownBy_below (grownBy_refl _ _) HB6.out (Nat.le_refl _)) _ _
              have hkq : KeepQ (fun b => w4.heap.size ≤ b) wr (w6.setCell ⟨g4, i * 8 + 6, none⟩ (.slice A6 f.blocks[k].ins[i].args.length c6)) := KeepQ.of_grown hgr (fun j hj => by cases hj; omega)
              have hkq6 : KeepQ (fun b => w4.heap.size ≤ b) w6 (w6.setCell ⟨g4, i * 8 + 6, none⟩ (.slice A6 f.blocks[k].ins[i].args.length c6)) := KeepQ.of_grown hst.2 (fun j hj => by cases hj; omega)
              refine ⟨i + 1, by omega, by go_num, _, updH hdi' i (A6, c6), hst.1, Lib.hid (HC5.out.store i hil (A6, c6)), Lib.hid (fun j a hj hji => ?_), Lib.hid (fun j hj => ?_), grownBy_two HG5.out hgr⟩
              · by_cases e : j = i
                · subst e
                  have : a = f.blocks[k].ins[j] := by rw [List.getElem?_eq_getElem hil] at hj; exact (Option.some.inj hj).symm
                  subst this
                  have := (HQ6.out.imp (Q' := fun b => w4.heap.size ≤ b) (fun b _ hb => Nat.le_trans HG5.out.size hb)).keep hkq6
                  simpa [updH] using this
                · have := (HR5.out j a hj (by omega)).keep hkq
                  simpa [updH, e] using this
              · have : j ≠ i := by omega
                simpa [updH, this] using HD5.out j (by omega)
            case measure => simp [intOf]; omega
          · have hil2 : i = f.blocks[k].ins.length := by omega
            subst hil2
            have hfz := HO'.out.frozenAt (k * 5)
            have hgw : wo.grownBy wr (some g2) := grownBy_below (grownBy_refl _ _) HG5b.out (Nat.le_refl _)
            have hO2 := HO'.out
            have HOr : Hid (wr.ownsRow W2.heap.size 55 5 (.slice (some ⟨g2, 0, none⟩) f.blocks.length c2) f.blocks.length vs') := Lib.hid (ownsRow_below HO'.out HG5b.out)
            have hcr : wr.cell? ⟨g2, k * 5, none⟩ = some (.slice hA f.blocks[k].ins.length hc) := by
              have := own_cells HOr.out _ _ (HC'.out.2 k _ (List.getElem?_eq_getElem hlt) 0 _ rfl)
              rw [HD'.out k (Nat.le_refl _), Hhd.out] at this
              exact this
            have hfr := HOr.out.frozenAt (k * 5)
            obtain ⟨d0, d1, d2, d3, d4⟩ := HK0.out _ (grownBy_below HG'.out HG5b.out HG'.out.size)
            clear hfz hgw hO2
            go_wp2_with fail
            go_roundw
            case rel =>
              have hst := HOr.out.stored (k * 5) (.slice A4 f.blocks[k].ins.length c4)
              have hgr : wo.grownBy (wr.setCell ⟨g2, k * 5, none⟩ (.slice A4 f.blocks[k].ins.length c4)) (some g2) := grownBy_setCell (grownBy_below (grownBy_refl _ _) HG5b.out (Nat.le_refl _)) _ _
              have hgc : g2 < wc.heap.size := (HO.out.lt g2 rfl).2
              have hkq : KeepQ (fun b => wc.heap.size ≤ b) wo (wr.setCell ⟨g2, k * 5, none⟩ (.slice A4 f.blocks[k].ins.length c4)) := KeepQ.of_grown hgr (fun j hj => by cases hj; omega)
              have hkr : KeepQ (fun b => wo.heap.size ≤ b) wr (wr.setCell ⟨g2, k * 5, none⟩ (.slice A4 f.blocks[k].ins.length c4)) := KeepQ.of_grown hst.2 (fun j hj => by cases hj; have := HG'.out.size; omega)
              refine ⟨k + 1, by omega, by go_num, _, updH hd' k (A4, c4), hst.1, Lib.hid (HC'.out.store k hlt (A4, c4)), Lib.hid (fun j a hj hjk => ?_), Lib.hid (fun j hj => ?_), grownBy_two HG'.out hgr⟩
              · by_cases e : j = k
                · subst e
                  have : a = f.blocks[j] := by rw [List.getElem?_eq_getElem hlt] at hj; exact (Option.some.inj hj).symm
                  subst this
                  obtain ⟨A9, c9, e9, hq9⟩ := RInsQ.of_own HO5.out HC5.out (by omega) (fun j a hj => (HR5.out j a hj (List.getElem?_eq_some_iff.1 hj).1).imp (fun b _ hb => Nat.le_trans HB4.out.size hb))
                  obtain ⟨rfl, rfl⟩ : A4 = A9 ∧ c4 = c9 := by injection e9 with h1 _ h2; exact ⟨h1, h2⟩
                  have := (hq9.keep hkr).imp (Q' := fun b => wc.heap.size ≤ b) (fun b _ hb => Nat.le_trans HG'.out.size hb)
                  simpa [updH] using this
                · have := (HR'.out j a hj (by omega)).keep hkq
                  simpa [updH, e] using this
              · have : j ≠ k := by omega
                simpa [updH, this] using HD'.out j (by omega)
            case measure => simp [intOf]; omega
      · have hkl : k = f.blocks.length := by omega
        subst hkl
        have h0 := d4 0
        have h1 := d4 1
        clear d4
        go_wp2_with fail
        refine bodyPost_ret (v := .agg #[.slice A1 f.params.length c1, .slice A2 f.blocks.length c2]) (by simp [results, Try.results27, go_sem, d2, d3]) rfl ?_
        obtain ⟨A9, c9, e9, hq9⟩ := RBlkQ.of_own HO'.out HC'.out (by omega) (fun j a hj => (HR'.out j a hj (List.getElem?_eq_some_iff.1 hj).1).imp (Q' := fun b => W2.heap.size ≤ b) (fun b _ hb => by omega))
        obtain ⟨rfl, rfl⟩ : A2 = A9 ∧ c2 = c9 := by injection e9 with h1 _ h2; exact ⟨h1, h2⟩
        have hbr : Below w.heap.size w wr := HBc.out.grown HG'.out HBc.out.size (fun j hj => Nat.le_trans HB2.out.size (HO'.out.lt j hj).1)
        have hkp : KeepQ (fun b => W2.heap.size ≤ b ∧ some b ≠ (Value.slice A2 f.blocks.length c2).ownBlock) wc wr := KeepQ.of_grown HG'.out (fun j hj hq => hq.2 hj.symm)
        have hks : KeepQ (fun b => W2.heap.size ≤ b) wr ((wr.setCell ⟨w.heap.size + 1, 0, none⟩ (.slice A1 f.params.length c1)).setCell ⟨w.heap.size + 1, 1, none⟩ (.slice A2 f.blocks.length c2)) := ⟨by simp [World.setCell], fun b hb hlt => by
          have hne : b ≠ w.heap.size + 1 := by omega
          rw [Below.heap_setCell _ _ _ _ hne, Below.heap_setCell _ _ _ _ hne]⟩
        exact ⟨A1, c1, A2, c2, rfl, (hbr.setCell (by simp) _).setCell (by simp) _, (((HQ.out.keep hkp).imp (fun b _ hb => hb.1)).keep hks).imp (fun b _ hb => by omega), (hq9.keep hks).imp (fun b _ hb => by omega)⟩
end Go.Proofs.Ytnbmmfkkjceehaa
