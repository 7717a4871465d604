/- Contract: ir.reach. -/
import Derived.Test.YtnbmmfkkjceehaaA7
import Derived.Test.YtnbmmfkkjceehaaD3
import Derived.Test.YtnbmmfkkjceehaaD4
namespace Go.Proofs.Ytnbmmfkkjceehaa
set_option linter.unusedSimpArgs false
set_option linter.unusedVariables false
open Go.RowKit

inductive Reach (f : FnD) : Nat → Prop
  | zero : Reach f 0
  | step {b t : Nat} (h : Reach f b) (hb : b < f.blocks.length) (ht : (t : Int) ∈ toL (f.blocks[b]).term) : Reach f t
def edgeOK (f : FnD) (t : Int) : Prop := 1 ≤ t ∧ t < f.blocks.length
def edgesOK (f : FnD) : Prop := ∀ x ∈ f.blocks, ∀ t ∈ toL x.term, edgeOK f t
theorem toL_len (t : TermD) : (toL t).length ≤ 2 := by unfold toL; split <;> (try split) <;> (try split) <;> simp
def RetReach (f : FnD) (w : World) (e : Ending) (w' : World) : Prop := Below w.heap.size w w' ∧
  ((¬ edgesOK f ∧ e = .returned (.tuple #[.int .i64 0, .bool false])) ∨
   (edgesOK f ∧ ∃ all : Nat, e = .returned (.tuple #[.int .i64 all, .bool true]) ∧ all ≤ f.blocks.length ∧ (all = f.blocks.length ↔ ∀ b, b < f.blocks.length → Reach f b)))
theorem Try.info4 : (Try.prog.info? 4).map (fun i => (i.zero, i.size, i.bytes)) = some (some (.bool false), 1, 1) := by kernel_rfl

/-! ### the search, in plain words -/
def cntB (s : SetF) (n : Nat) : Nat := ((List.range n).filter s).length
theorem cntB_le (s : SetF) (n : Nat) : cntB s n ≤ n := by
  have := List.length_filter_le s (List.range n); simpa [cntB] using this
theorem cntB_succ (s : SetF) (n : Nat) : cntB s (n + 1) = cntB s n + if s n then 1 else 0 := by
  unfold cntB
  rw [List.range_succ, List.filter_append]
  by_cases h : s n <;> simp [h]
theorem cntB_none (n : Nat) : cntB (fun _ => false) n = 0 := by simp [cntB]
theorem cntB_upd (s : SetF) (n b : Nat) (hs : s b = false) : cntB (updF s b true) n = cntB s n + if b < n then 1 else 0 := by
  induction n with
  | zero => simp [cntB]
  | succ n ih =>
    rw [cntB_succ, cntB_succ, ih]
    unfold updF
    by_cases e : n = b
    · subst e; simp [hs]
    · by_cases h : b < n
      · simp [e, h, show b < n + 1 by omega]; omega
      · simp [e, h, show ¬ b < n + 1 by omega]
theorem cntB_all (s : SetF) (n : Nat) : cntB s n = n ↔ ∀ b, b < n → s b = true := by
  induction n with
  | zero => simp [cntB]
  | succ n ih =>
    rw [cntB_succ]
    have := cntB_le s n
    constructor
    · intro h b hb
      by_cases hn : s n
      · simp [hn] at h
        rcases Nat.lt_succ_iff_lt_or_eq.1 hb with h2 | rfl
        · exact ih.1 h b h2
        · exact hn
      · simp [hn] at h; omega
    · intro h
      rw [h n (by omega), ih.2 (fun b hb => h b (by omega))]; rfl
structure RInv (f : FnD) (s : SetF) (xs : List Int) (all : Nat) : Prop where
  cnt : all = cntB s f.blocks.length
  len : xs.length ≤ 1 + 2 * all
  seen : ∀ b, b < f.blocks.length → s b = true → Reach f b
  todo : ∀ x ∈ xs, ∃ b : Nat, x = b ∧ b < f.blocks.length ∧ Reach f b
  start : s 0 = true ∨ (0 : Int) ∈ xs
  shut : ∀ b, (hb : b < f.blocks.length) → s b = true → ∀ t ∈ toL (f.blocks[b]).term, ∃ u : Nat, t = u ∧ u < f.blocks.length ∧ (s u = true ∨ t ∈ xs)
theorem RInv.begin (f : FnD) (h0 : 0 < f.blocks.length) : RInv f (fun _ => false) [0] 0 :=
  ⟨(cntB_none _).symm, by simp, fun b _ h => by simp at h, fun x hx => ⟨0, by simpa using hx, h0, .zero⟩, .inr (by simp), fun b _ h => by simp at h⟩
theorem RInv.skip {f : FnD} {s : SetF} {b : Nat} {xs : List Int} {all : Nat} (h : RInv f s ((b : Int) :: xs) all) (hs : s b = true) : RInv f s xs all := by
  have hm : ∀ u : Nat, (u : Int) ∈ (b : Int) :: xs → s u = true ∨ (u : Int) ∈ xs := by
    intro u hu
    rcases List.mem_cons.1 hu with hu | hu
    · have : u = b := by omega
      subst this; exact .inl hs
    · exact .inr hu
  refine ⟨h.cnt, by have := h.len; simp at this; omega, h.seen, fun x hx => h.todo x (List.mem_cons_of_mem _ hx), ?_, ?_⟩
  · rcases h.start with h0 | h0
    · exact .inl h0
    · have := hm 0 (by simpa using h0); simpa using this
  · intro b' hb' hs' t ht
    obtain ⟨u, rfl, hu, hor⟩ := h.shut b' hb' hs' t ht
    refine ⟨u, rfl, hu, ?_⟩
    rcases hor with hor | hor
    · exact .inl hor
    · exact hm u hor
theorem RInv.mark {f : FnD} {s : SetF} {b : Nat} {xs : List Int} {all : Nat} (h : RInv f s ((b : Int) :: xs) all) (hb : b < f.blocks.length) (hs : s b = false) (he : edgesOK f) : RInv f (updF s b true) (xs ++ toL (f.blocks[b]).term) (all + 1) := by
  have hr : Reach f b := by
    obtain ⟨b', e, _, hr⟩ := h.todo b (List.mem_cons_self ..)
    have : b = b' := by omega
    subst this; exact hr
  have hu : ∀ k, s k = true → updF s b true k = true := by intro k hk; unfold updF; split <;> simp [hk]
  have hub : updF s b true b = true := by simp [updF]
  have htl := toL_len (f.blocks[b]).term
  have hm : ∀ u : Nat, (u : Int) ∈ (b : Int) :: xs → updF s b true u = true ∨ (u : Int) ∈ xs ++ toL (f.blocks[b]).term := by
    intro u hu
    rcases List.mem_cons.1 hu with hu | hu
    · have : u = b := by omega
      subst this; exact .inl hub
    · exact .inr (List.mem_append_left _ hu)
  have hedge : ∀ t ∈ toL (f.blocks[b]).term, ∃ u : Nat, t = u ∧ u < f.blocks.length := by
    intro t ht
    have ⟨h1, h2⟩ := he _ (List.getElem_mem hb) t ht
    exact ⟨t.toNat, by omega, by omega⟩
  refine ⟨?_, ?_, ?_, ?_, ?_, ?_⟩
  · rw [cntB_upd s _ b hs, if_pos hb, ← h.cnt]
  · have := h.len; simp at this ⊢; omega
  · intro k hk hsk
    by_cases e : k = b
    · subst e; exact hr
    · exact h.seen k hk (by simpa [updF, e] using hsk)
  · intro x hx
    rcases List.mem_append.1 hx with hx | hx
    · exact h.todo x (List.mem_cons_of_mem _ hx)
    · obtain ⟨u, rfl, hu⟩ := hedge x hx
      exact ⟨u, rfl, hu, .step hr hb hx⟩
  · rcases h.start with h0 | h0
    · exact .inl (hu 0 h0)
    · have := hm 0 (by simpa using h0); simpa using this
  · intro b' hb' hs' t ht
    by_cases e : b' = b
    · subst e
      obtain ⟨u, rfl, hu⟩ := hedge t ht
      exact ⟨u, rfl, hu, .inr (List.mem_append_right _ ht)⟩
    · obtain ⟨u, rfl, hu', hor⟩ := h.shut b' hb' (by simpa [updF, e] using hs') t ht
      refine ⟨u, rfl, hu', ?_⟩
      rcases hor with hor | hor
      · exact .inl (hu u hor)
      · exact hm u hor
theorem RInv.finish {f : FnD} {s : SetF} {all : Nat} (h : RInv f s [] all) (h0 : 0 < f.blocks.length) : all ≤ f.blocks.length ∧ (all = f.blocks.length ↔ ∀ b, b < f.blocks.length → Reach f b) := by
  have hrs : ∀ b, Reach f b → b < f.blocks.length ∧ s b = true := by
    intro b hb
    induction hb with
    | zero => exact ⟨h0, by simpa using h.start⟩
    | step _ hb ht ih =>
      obtain ⟨u, e, hu, hor⟩ := h.shut _ hb ih.2 _ ht
      have : u = _ := (Int.ofNat.inj e).symm
      subst this
      exact ⟨hu, by simpa using hor⟩
  refine ⟨by rw [h.cnt]; exact cntB_le _ _, ?_⟩
  rw [h.cnt, cntB_all]
  exact ⟨fun hh b hb => h.seen b hb (hh b hb), fun hh b hb => (hrs b (hh b hb)).2⟩
def sliceLen : Value → Nat
  | .slice _ n _ => n
  | _ => 0

theorem mark_step {wr w1 : World} {B n b : Nat} {T e : TypeId} {s : SetF} {v : Value} {ys : List Int} {hBW : World} (hbb : Below B hBW wr) (hbl : BoolAt wr B T n s) (hq : Q1 wr (B + 1) e v ys) 
    (hb : Below (wr.setCell ⟨B, b, none⟩ (.bool true)).heap.size (wr.setCell ⟨B, b, none⟩ (.bool true)) w1) :
    Below B hBW w1 ∧ wr.heap.size ≤ w1.heap.size ∧ Q1 w1 (B + 1) e v ys ∧ BoolAt w1 B T n (updF s b true) := by
  have hsz : (wr.setCell ⟨B, b, none⟩ (.bool true)).heap.size = wr.heap.size := by simp [World.setCell]
  have hlt := hbl.lt
  refine ⟨(hbb.setCell (Nat.le_refl _) _).trans (hb.mono (by rw [hsz]; omega)), by have := hb.size; omega, ?_, (hbl.stored b true).below hb (by rw [hsz]; exact hlt)⟩
  refine (hq.move (w' := wr.setCell ⟨B, b, none⟩ (.bool true)) (fun k hk => heap_setCell_other wr _ k _ ?_)).below hb
  have := (hq.lt k hk).1
  show k ≠ B
  omega

set_option maxRecDepth 100000 in
set_option maxHeartbeats 8000000 in
theorem reach_any (w : World) (A : Option Addr) (c : Nat) (B : Option Addr) (d : Nat) (f : FnD) (h : RBlk w B d f.blocks) (h0 : 0 < f.blocks.length) (h200 : f.blocks.length ≤ 200) : Calls Try.prog 36 #[fnV A c B d f] w (RetReach f w) := by
  have H := Lib.hid h
  clear h
  simp only [fnV]
  go_enter Try.func36, Try.ntmps36
  go_wp2_with (at_make; refine wpList_make_bools rfl _ _ 108 rfl 4 Try.underlying108 Try.info4 f.blocks.length _ _ rfl rfl rfl rfl (by omega) ?_; intro W2 hb2 hbool; have hlt2 := hbool.lt; simp only [World.size_alloc] at hb2 hbool hlt2; obtain ⟨hc2, hf2⟩ := bcell hb2)
  have HB2 := Lib.hid hb2
  have Hbool := Lib.hid hbool
  clear hb2 hbool
  go_loopw [2, 18] (fun al i wr => ∃ k : Nat, k ≤ f.blocks.length ∧ al = .int .i64 0 ∧ i = .int .i64 k ∧ Hid (∀ x ∈ f.blocks.take k, ∀ t ∈ toL x.term, edgeOK f t) ∧ Below (w.heap.size + 1 + 1) W2 wr) (fun _ i _ => f.blocks.length - (intOf i).toNat)
  case atStart => exact ⟨0, Nat.zero_le _, rfl, rfl, Lib.hid (by simp), Below.refl _ _⟩
  case round =>
    obtain ⟨k, hk, rfl, rfl, Ht, hb⟩ := hrel
    have hsz := hb.size
    have hz0 : w.heap.size < wr.heap.size := by omega
    obtain ⟨hcr, hfr⟩ := bcell hb
    have hbw : Below w.heap.size w wr := (((Below.refl _ _).alloc (Nat.le_refl _) _).trans (HB2.out.mono (by omega))).trans (hb.mono (by omega))
    have HBw := Lib.hid hbw
    have HB := Lib.hid hb
    clear hb hbw
    by_cases hlt : k < f.blocks.length
    · obtain ⟨b, o, A', c', hA, hbs, hat⟩ := (H.out.below HBw.out).at k hlt
      subst hA
      have h0 := hat.c0
      have h1 := hat.c1
      have h2 := hat.c2
      have h3 := hat.c3
      have h4 := hat.c4
      clear hat
      have htl := toL_len f.blocks[k].term
      go_wp2_with (go_at_call 33; refine (to_any _ f.blocks[k].term).mono ?_; rintro e w1 ⟨v, rfl, hb, hown⟩; obtain ⟨A2, c2, rfl, hr⟩ := ownsRow_RI hown (by omega); have hz : wr.heap.size < w1.heap.size := Nat.lt_of_lt_of_le (by simp) hb.size; obtain ⟨hcx, hfx⟩ := bcell hb; simp only [World.size_alloc] at hcx hfx; have HR := Lib.hid hr; have HBx := Lib.hid hb; clear hr hown hb)
      have hbw1 : Below (w.heap.size + 1 + 1) W2 w1 := (HB.out.alloc (by omega) _).trans (HBx.out.mono (by simp; omega))
      have HBw1 := Lib.hid hbw1
      clear hbw1
      obtain ⟨L, hL⟩ : ∃ L, toL f.blocks[k].term = L := ⟨_, rfl⟩
      rw [hL] at HR htl
      rw [hL]
      have HL := Lib.hid hL
      clear hL
      go_loop [2, 26] (fun al i => ∃ j : Nat, j ≤ L.length ∧ al = .int .i64 0 ∧ i = .int .i64 j ∧ Hid (∀ t ∈ L.take j, edgeOK f t)) (fun _ i => L.length - (intOf i).toNat)
      case atStart => exact ⟨0, Nat.zero_le _, rfl, rfl, Lib.hid (by simp)⟩
      case round =>
        obtain ⟨j, hj, rfl, rfl, Hj⟩ := hrel
        by_cases hltj : j < L.length
        · obtain ⟨bb, oo, hA2, hbbs, hcc⟩ := HR.out.at j hltj
          subst hA2
          have Hbad : ¬ edgeOK f L[j] → ¬ edgesOK f := fun hn ha => hn (ha f.blocks[k] (List.getElem_mem hlt) L[j] (by rw [HL.out]; exact List.getElem_mem hltj))
          have HBad := Lib.hid Hbad
          clear Hbad
          by_cases e1 : L[j] < 1
          · have HN : Hid (¬ edgesOK f) := Lib.hid (HBad.out (fun hh => by have := hh.1; omega))
            go_wp2
            go_ret2
            exact ⟨((Below.refl _ _).alloc (Nat.le_refl _) _).trans ((HB2.out.mono (by omega)).trans (HBw1.out.mono (by omega))), .inl ⟨HN.out, rfl⟩⟩
          · by_cases e2 : L[j] < f.blocks.length
            · have HO : Hid (edgeOK f L[j]) := Lib.hid ⟨by omega, e2⟩
              have e3 : decide ((f.blocks.length : Int) ≤ L[j]) = false := by simp; omega
              go_wp2
              go_round
              case rel =>
                refine ⟨j + 1, by omega, rfl, by go_num, Lib.hid ?_⟩
                rw [take_snoc_eq L j hltj]
                intro t ht
                rcases List.mem_append.1 ht with ht | ht
                · exact Hj.out t ht
                · rw [List.mem_singleton] at ht; rw [ht]; exact HO.out
              case measure => simp [intOf]; omega
            · have HN : Hid (¬ edgesOK f) := Lib.hid (HBad.out (fun hh => by have := hh.2; omega))
              have e3 : decide ((f.blocks.length : Int) ≤ L[j]) = true := by simp; omega
              go_wp2
              go_ret2
              exact ⟨((Below.refl _ _).alloc (Nat.le_refl _) _).trans ((HB2.out.mono (by omega)).trans (HBw1.out.mono (by omega))), .inl ⟨HN.out, rfl⟩⟩
        · go_wp2
          go_roundw
          case rel =>
            refine ⟨k + 1, by omega, rfl, by go_num, Lib.hid ?_, HBw1.out⟩
            rw [take_snoc_eq _ k hlt]
            intro x hx t ht
            rcases List.mem_append.1 hx with hx | hx
            · exact Ht.out x hx t ht
            · rw [List.mem_singleton] at hx
              rw [hx, HL.out] at ht
              exact Hj.out t (by rw [List.take_of_length_le (by omega)]; exact ht)
          case measure => simp [intOf]; omega
    · have HE : Hid (edgesOK f) := Lib.hid (fun x hx t ht => Ht.out x (by rw [List.take_of_length_le (by omega)]; exact hx) t ht)
      clear Ht
      have hbl : BoolAt wr (w.heap.size + 1) 4 f.blocks.length (fun _ => false) := Hbool.out.below HB.out (by omega)
      have Hbl := Lib.hid hbl
      clear hbl
      obtain ⟨wo, hwo⟩ : ∃ wo : World, wo = wr := ⟨_, rfl⟩
      subst hwo
      have HBB : Hid (Below (w.heap.size + 1) (w.alloc (.cells #[.slice A f.params.length c, .slice B f.blocks.length d] 30)) wo) := Lib.hid (HB2.out.trans (HB.out.mono (by omega)))
      clear hcr hfr hc2 hf2
      go_wp2_with fail
      go_loopw [2, 9] (fun al v wr => ∃ (s : SetF) (xs : List Int) (all : Nat), al = .int .i64 all ∧ Q1 wr (w.heap.size + 1 + 1) 3 v xs ∧ BoolAt wr (w.heap.size + 1) 4 f.blocks.length s ∧ Below (w.heap.size + 1) (w.alloc (.cells #[.slice A f.params.length c, .slice B f.blocks.length d] 30)) wr ∧ Hid (RInv f s xs all)) (fun al v _ => 3 * (f.blocks.length - (intOf al).toNat) + sliceLen v)
      case atStart =>
        refine ⟨fun _ => false, [0], 0, rfl, ?_, Hbl.out.alloc _, HBB.out.alloc (by omega) _, Lib.hid (RInv.begin f h0)⟩
        exact Q1.of_own (ownsRow_weaken (World.ownsRow_lit wo #[.int .i64 0] 1 (Nat.le_refl _) (by decide) rfl) (by omega))
      case round =>
        obtain ⟨s, xs, all, rfl, hq, hbl, hbb, HI⟩ := hrel
        obtain ⟨A3, c3, rfl, hcap⟩ := hq.slice
        have hltb := hbl.lt
        obtain ⟨hcr, hfr⟩ := bcell hbb
        have HQ := Lib.hid hq
        have HBL := Lib.hid hbl
        have HBB2 := Lib.hid hbb
        clear hq hbl hbb
        cases xs with
        | nil =>
          obtain ⟨hle, hiff⟩ := HI.out.finish h0
          have HF := Lib.hid hiff
          clear hiff
          go_wp2
          go_ret2
          exact ⟨((Below.refl _ _).alloc (Nat.le_refl _) _).trans (HBB2.out.mono (by omega)), .inr ⟨HE.out, all, rfl, hle, HF.out⟩⟩
        | cons x ys =>
          obtain ⟨b, hx, hbn, hreach⟩ := HI.out.todo x (List.mem_cons_self ..)
          subst hx
          clear hreach
          obtain ⟨g, off, hA3, hgl, hcells⟩ := HQ.out.cells (by simp)
          subst hA3
          have hcell := hcells 0 _ rfl
          simp only [Nat.add_zero] at hcell
          clear hcells
          have HT := Lib.hid HQ.out.tail
          have hle := cntB_le s f.blocks.length
          have hcn := HI.out.cnt
          have hall : all ≤ f.blocks.length := by omega
          have hylen := HI.out.len
          simp only [List.length_cons] at hylen hcap
          clear hle hcn
          have hs := HBL.out.cell b hbn
          have hsf := HBL.out.free b
          cases hsb : s b
          · rw [hsb] at hs
            have Hsb := Lib.hid hsb
            clear hsb
            obtain ⟨bb, o, A', c', hA, hbs, hat⟩ := H.out.at b hbn
            subst hA
            have g0 := hat.c0
            have g1 := hat.c1
            have g2 := hat.c2
            have g3 := hat.c3
            have g4 := hat.c4
            have htl := toL_len f.blocks[b].term
            have hne : bb ≠ w.heap.size + 1 := by omega
            clear hat
            by_cases hc1 : c3 = 1
            · subst hc1
              obtain rfl : ys = [] := List.length_eq_zero_iff.1 (by omega)
              have HT2 : Hid (Q1 wr (w.heap.size + 1 + 1) 3 (.slice (some ⟨g, off, none⟩) 0 0) []) := Lib.hid (by simpa using HT.out)
              clear HT
              go_wp2_with (first
                | (go_at_call 33; refine (to_any _ f.blocks[b].term).mono ?_; rintro e w1 ⟨v, rfl, hb, hown⟩; obtain ⟨A2, c2, rfl, hr⟩ := ownsRow_RI hown (by omega); obtain ⟨hbx, hsx, hqx, hblx⟩ := mark_step HBB2.out HBL.out HT2.out hb; have HBx := Lib.hid hbx; have HQx := Lib.hid hqx; have HBLx := Lib.hid hblx; have HR := Lib.hid hr; clear hr hown hb hbx hqx hblx)
                | (at_builtin; refine wpList_append_queue rfl (.tmp 60) (.tmp 67) 27 rfl (w.heap.size + 1 + 1) 3 Try.underlying27 Try.info3 _ [] rfl HQx.out _ _ _ _ rfl rfl HR.out (by omega) (by omega) ?_; intro v' w2 hq2 hgr2 hat2))
              have hrow : ∀ k, (.slice (some ⟨g, off, none⟩) 0 0 : Value).ownBlock = some k → w.heap.size + 1 + 1 ≤ k := fun k hk => (HQx.out.lt k hk).1
              go_roundw
              case rel =>
                refine ⟨updF s b true, [] ++ toL f.blocks[b].term, all + 1, by go_num, hq2, HBLx.out.grown hgr2 (fun e => by have := hrow _ e.symm; omega), HBx.out.grown hgr2 (by omega) (fun k hk => by have := hrow k hk; omega), Lib.hid (HI.out.mark hbn Hsb.out HE.out)⟩
              case measure =>
                obtain ⟨A4, c4, rfl, _⟩ := hq2.slice
                have hlt5 : all < f.blocks.length := by
                  have h1 := (HI.out.mark hbn Hsb.out HE.out).cnt
                  have h2 := cntB_le (updF s b true) f.blocks.length
                  omega
                simp [intOf, sliceLen]; omega
            · have HT2 : Hid (Q1 wr (w.heap.size + 1 + 1) 3 (.slice (some ⟨g, off + 1, none⟩) ys.length (c3 - 1)) ys) := Lib.hid (by simpa [hc1, Addr.add_lit] using HT.out)
              clear HT
              go_wp2_with (first
                | (go_at_call 33; refine (to_any _ f.blocks[b].term).mono ?_; rintro e w1 ⟨v, rfl, hb, hown⟩; obtain ⟨A2, c2, rfl, hr⟩ := ownsRow_RI hown (by omega); obtain ⟨hbx, hsx, hqx, hblx⟩ := mark_step HBB2.out HBL.out HT2.out hb; have HBx := Lib.hid hbx; have HQx := Lib.hid hqx; have HBLx := Lib.hid hblx; have HR := Lib.hid hr; clear hr hown hb hbx hqx hblx)
                | (at_builtin; refine wpList_append_queue rfl (.tmp 60) (.tmp 67) 27 rfl (w.heap.size + 1 + 1) 3 Try.underlying27 Try.info3 _ ys rfl HQx.out _ _ _ _ rfl rfl HR.out (by omega) (by omega) ?_; intro v' w2 hq2 hgr2 hat2))
              have hrow : ∀ k, (.slice (some ⟨g, off + 1, none⟩) ys.length (c3 - 1) : Value).ownBlock = some k → w.heap.size + 1 + 1 ≤ k := fun k hk => (HQx.out.lt k hk).1
              go_roundw
              case rel =>
                refine ⟨updF s b true, ys ++ toL f.blocks[b].term, all + 1, by go_num, hq2, HBLx.out.grown hgr2 (fun e => by have := hrow _ e.symm; omega), HBx.out.grown hgr2 (by omega) (fun k hk => by have := hrow k hk; omega), Lib.hid (HI.out.mark hbn Hsb.out HE.out)⟩
              case measure =>
                obtain ⟨A4, c4, rfl, _⟩ := hq2.slice
                have hlt5 : all < f.blocks.length := by
                  have h1 := (HI.out.mark hbn Hsb.out HE.out).cnt
                  have h2 := cntB_le (updF s b true) f.blocks.length
                  omega
                simp [intOf, sliceLen]; omega
          · rw [hsb] at hs
            have Hsb := Lib.hid hsb
            clear hsb
            by_cases hc1 : c3 = 1
            · subst hc1
              obtain rfl : ys = [] := List.length_eq_zero_iff.1 (by omega)
              go_wp2
              go_roundw
              case rel => exact ⟨s, [], all, rfl, by simpa using HT.out, HBL.out, HBB2.out, Lib.hid (HI.out.skip Hsb.out)⟩
              case measure => simp [intOf, sliceLen]
            · go_wp2
              go_roundw
              case rel => exact ⟨s, ys, all, rfl, by simpa [hc1, Addr.add_lit] using HT.out, HBL.out, HBB2.out, Lib.hid (HI.out.skip Hsb.out)⟩
              case measure => simp [intOf, sliceLen]
end Go.Proofs.Ytnbmmfkkjceehaa
