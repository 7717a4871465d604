/- Contract: ir.Vars. -/
import Derived.Test.YtddgdimjijefhaaA14
import Derived.Test.YtddgdimjijefhaaD8
namespace Go.Proofs.Ytddgdimjijefhaa
set_option linter.unusedSimpArgs false
set_option linter.unusedVariables false
open Go.RowKit

def seenIns (s : SetF) (l : List InsD) : SetF := l.foldl (fun s i => markL s (readsL i ++ [definesI i])) s
def seenBlk (s : SetF) (x : BlkD) : SetF := markL (seenIns s x.ins) (needsL x.term)
def seenF (f : FnD) : SetF := f.blocks.foldl seenBlk (markL (fun _ => false) f.params)
theorem seenIns_snoc (s : SetF) (l : List InsD) (i : InsD) : seenIns s (l ++ [i]) = markL (seenIns s l) (readsL i ++ [definesI i]) := by simp [seenIns]
theorem fold_snoc (s : SetF) (l : List BlkD) (x : BlkD) : (l ++ [x]).foldl seenBlk s = seenBlk (l.foldl seenBlk s) x := by simp
def upto (s : SetF) (k : Nat) : List Int := List.map (fun v : Nat => (v : Int)) (List.filter (fun v : Nat => decide (1 ≤ v) && s v) (List.range k))
def varsL (f : FnD) : List Int := if longB f || !wholeB f then [] else upto (seenF f) 201

theorem upto_succ (s : SetF) (k : Nat) (hk : 1 ≤ k) : upto s (k + 1) = if s k then upto s k ++ [(k : Int)] else upto s k := by
  unfold upto
  rw [List.range_succ, List.filter_append, List.map_append]
  cases h : s k <;> simp [h, hk]
theorem upto_len (s : SetF) (k : Nat) : (upto s k).length ≤ k := by
  unfold upto
  rw [List.length_map]
  exact Nat.le_trans (List.length_filter_le _ _) (by simp)
theorem readsDef_in (i : InsD) : inSet (readsL i ++ [definesI i]) := fun x hx => by
  rcases List.mem_append.1 hx with h | h
  · exact readsL_in i x h
  · have : x = definesI i := by simpa using h
    have := definesI_in i
    omega
/-- Between the copy of an instruction and the mark: nothing that was there has changed but block G, which holds s. -/
structure Mid (w Wn : World) (G : Nat) (T : TypeId) (s : SetF) (w' : World) : Prop where
  below : Below w.heap.size w w'
  gr : Wn.grownBy w' (some G)
  set : SetAt w' G T s
  ge : Wn.heap.size ≤ w'.heap.size
  lo : G < Wn.heap.size
  base : w.heap.size ≤ Wn.heap.size
theorem Mid.gt {w Wn w1 : World} {G : Nat} {T : TypeId} {s : SetF} (h : Mid w Wn G T s w1) : Wn.heap.size ≤ w1.heap.size := h.ge
theorem Mid.start {w Wn : World} {G : Nat} {T : TypeId} {s : SetF} (h : Below w.heap.size w Wn) (hs : SetAt Wn G T s) (hw : w.heap.size ≤ G) : Mid w Wn G T s Wn :=
  ⟨h, grownBy_refl _ _, hs, Nat.le_refl _, hs.lt, h.size⟩
theorem Mid.step {w Wn w1 w' : World} {G : Nat} {T : TypeId} {s : SetF} (h : Mid w Wn G T s w1) (hb : Below Wn.heap.size w1 w') : Mid w Wn G T s w' :=
  ⟨h.below.trans (hb.mono h.base), grownBy_below h.gr hb (Nat.le_refl _), h.set.below hb h.lo, Nat.le_trans h.ge hb.size, h.lo, h.base⟩
theorem Mid.drew {w Wn w1 : World} {G : Nat} {T : TypeId} {s : SetF} (h : Mid w Wn G T s w1) : Mid w Wn G T s w1.drew := h.step (Below.refl _ _).drew
theorem Mid.call {w Wn w1 w' : World} {G : Nat} {T : TypeId} {s : SetF} (h : Mid w Wn G T s w1) (hb : Below w1.heap.size w1 w') : Mid w Wn G T s w' := h.step (hb.mono h.ge)
theorem Mid.alloc {w Wn w1 : World} {G : Nat} {T : TypeId} {s : SetF} (h : Mid w Wn G T s w1) (o : Obj) : Mid w Wn G T s (w1.alloc o) := h.step ((Below.refl _ _).alloc h.ge o)
theorem Mid.grown {w Wn w1 w' : World} {G : Nat} {T : TypeId} {s : SetF} {row : Option Nat} (h : Mid w Wn G T s w1) (hg : w1.grownBy w' row) (hr : ∀ k, row = some k → Wn.heap.size ≤ k) : Mid w Wn G T s w' := h.step ((Below.refl _ _).grown hg h.ge hr)
theorem grownBy_two {w w1 w2 : World} {G : Nat} (h : w.grownBy w1 (some G)) (hg : w1.grownBy w2 (some G)) : w.grownBy w2 (some G) :=
  ⟨hg.os.trans h.os, hg.tape.trans h.tape, hg.output.trans h.output, Nat.le_trans h.size hg.size, fun k hk hne => (hg.block k (Nat.lt_of_lt_of_le hk h.size) hne).trans (h.block k hk hne)⟩
set_option maxRecDepth 100000 in
set_option maxHeartbeats 8000000 in
theorem vars_any (w : World) (A : Option Addr) (c : Nat) (B : Option Addr) (d : Nat) (f : FnD) (hp : RI w A c f.params) (h : RBlk w B d f.blocks) : Calls Try.prog 38 #[fnV A c B d f] w (RetRow 3 (varsL f) w) := by
  have hpbig := hp.big
  have hbig := h.big
  have H := Lib.hid h
  have Hp := Lib.hid hp
  clear h hp
  simp only [fnV]
  go_enter Try.func38, Try.ntmps38
  cases hl : longB f
  · have Hl := Lib.hid (longB_blocks hl)
    have Hl2 := Lib.hid hl
    clear hl
    cases hw : wholeB f
    · have HR : Hid (varsL f = []) := Lib.hid (by unfold varsL; rw [Hl2.out, hw]; rfl)
      have Hw := Lib.hid hw
      clear hw
      go_wp2_with (first
        | (go_at_call 73; refine (long_any _ A c B d f hpbig (H.out.below (by go_grown))).mono ?_; rintro e w1 ⟨rfl, hb⟩; rw [Hl2.out]; have HB1 : Hid (Below w.heap.size w w1) := Lib.hid (((Below.refl _ _).alloc (Nat.le_refl _) _).trans (hb.mono (by simp))); obtain ⟨hc1, hf1⟩ := bcell hb; simp only [World.size_alloc] at hc1 hf1; have hz1 := hb.size; simp only [World.size_alloc] at hz1; have hq1 : w.heap.size < w1.heap.size := hz1; clear hb)
        | (go_at_call 74; refine (whole_any _ A c B d f (Hp.out.below HB1.out) (H.out.below HB1.out)).mono ?_; rintro e w2 ⟨rfl, hb⟩; rw [Hw.out]; have HB2 : Hid (Below w.heap.size w w2) := Lib.hid (HB1.out.trans (hb.mono HB1.out.size)); clear hb))
      go_ret
      rw [HR.out]
      exact RetRow.nil HB2.out
    · have HR : Hid (varsL f = upto (seenF f) 201) := Lib.hid (by unfold varsL; rw [Hl2.out, hw]; rfl)
      have Hargs := Lib.hid (wholeB_args hw)
      have Hpin := Lib.hid (wholeB_params hw)
      have Hw := Lib.hid hw
      clear hw
      go_wp2_with (first
        | (go_at_call 73; refine (long_any _ A c B d f hpbig (H.out.below (by go_grown))).mono ?_; rintro e w1 ⟨rfl, hb⟩; rw [Hl2.out]; have HB1 : Hid (Below w.heap.size w w1) := Lib.hid (((Below.refl _ _).alloc (Nat.le_refl _) _).trans (hb.mono (by simp))); obtain ⟨hc1, hf1⟩ := bcell hb; simp only [World.size_alloc] at hc1 hf1; have hz1 := hb.size; simp only [World.size_alloc] at hz1; have hq1 : w.heap.size < w1.heap.size := hz1; clear hb)
        | (go_at_call 74; refine (whole_any _ A c B d f (Hp.out.below HB1.out) (H.out.below HB1.out)).mono ?_; rintro e w2 ⟨rfl, hb⟩; rw [Hw.out]; have HB2 : Hid (Below w.heap.size w w2) := Lib.hid (HB1.out.trans (hb.mono HB1.out.size)); obtain ⟨hc2, hf2⟩ := bcell hb; have hz2 := hb.size; have hq2 : w.heap.size < w2.heap.size := Nat.lt_of_lt_of_le hq1 hz2; clear hb)
        | ((with_reducible refine wpList_alloc_set rfl 120 rfl Try.setZero ?_); obtain ⟨W3, hW3⟩ : ∃ W3 : World, W3 = w2.alloc (.cells (setC fun _ => false) 120) := ⟨_, rfl⟩; have HS3 : Hid (SetAt W3 w2.heap.size 120 (fun _ => false)) := Lib.hid (by rw [hW3]; exact SetAt.new _ _ _); have HB3 : Hid (Below w2.heap.size w2 W3) := Lib.hid (by rw [hW3]; exact (Below.refl _ _).alloc (Nat.le_refl _) _); rw [← hW3]; clear hW3; have hc3 := (bcell HB3.out).1; have hz3 := HB3.out.size; have hq3 : w.heap.size < W3.heap.size := by omega))
      refine (mark_any _ A c f.params w2.heap.size _ (Hp.out.below (HB2.out.trans (HB3.out.mono (by omega)))) Hpin.out (fun hn b o hA => by have := Hp.out.blk hn hA; omega) HS3.out).mono ?_
      rintro e w4 ⟨rfl, hs, hg⟩
      have HS4 := Lib.hid hs
      have hc4 : ∀ b o, b < W3.heap.size → b ≠ w2.heap.size → w4.cell? ⟨b, o, none⟩ = W3.cell? ⟨b, o, none⟩ := fun b o h1 h2 => grownBy_cell hg h1 h2
      have hne4 : w.heap.size ≠ w2.heap.size := by omega
      have HB4 : Hid (Below w.heap.size w w4) := Lib.hid ((HB2.out.trans (HB3.out.mono (by omega))).grown hg (by omega) (fun k hk => by cases hk; omega))
      have hz4 := hg.size
      clear hs hg
      go_wp2_with fail
      go_loopw [25] (fun i wr => ∃ k : Nat, k ≤ f.blocks.length ∧ i = .int .i64 k ∧ SetAt wr w2.heap.size 120 ((f.blocks.take k).foldl seenBlk (markL (fun _ => false) f.params)) ∧ Below w.heap.size w wr) (fun i _ => f.blocks.length - (intOf i).toNat)
      case atStart => exact ⟨0, Nat.zero_le _, rfl, HS4.out, HB4.out⟩
      case round =>
        obtain ⟨k, hk, rfl, hs, hb⟩ := hrel
        have HS5 := Lib.hid hs
        have HB5 := Lib.hid hb
        have hsl := hs.lt
        clear hs hb
        by_cases hlt : k < f.blocks.length
        · obtain ⟨b, o, A', c', hA, hbs, hat0⟩ := H.out.at k hlt
          subst hA
          have HIw := Lib.hid hat0.ins
          have hat := hat0.below hbs HB5.out
          clear hat0
          have g0 := hat.c0
          have g1 := hat.c1
          have g2 := hat.c2
          have g3 := hat.c3
          have g4 := hat.c4
          have hibig := hat.ins.big
          have HI := Lib.hid hat.ins
          have HAr := Lib.hid (Hargs.out _ (List.getElem_mem hlt))
          clear hat
          obtain ⟨wm, hwm⟩ : ∃ wm : World, wm = wr := ⟨_, rfl⟩
          subst hwm
          go_wp2_with fail
          go_loopw [32] (fun i wr => ∃ j : Nat, j ≤ f.blocks[k].ins.length ∧ i = .int .i64 j ∧ SetAt wr w2.heap.size 120 (seenIns ((f.blocks.take k).foldl seenBlk (markL (fun _ => false) f.params)) (f.blocks[k].ins.take j)) ∧ (wm.alloc (.cells #[.slice A' f.blocks[k].ins.length c', .int .i64 f.blocks[k].term.kind, .int .i64 f.blocks[k].term.a, .int .i64 f.blocks[k].term.t0, .int .i64 f.blocks[k].term.t1] 39)).grownBy wr (some w2.heap.size) ∧ Below w.heap.size w wr) (fun i _ => f.blocks[k].ins.length - (intOf i).toNat)
          case atStart => exact ⟨0, Nat.zero_le _, rfl, by simpa [seenIns] using HS5.out.alloc _, grownBy_refl _ _, HB5.out.alloc HB5.out.size _⟩
          case round =>
            obtain ⟨j, hj, rfl, hs, hg, hb⟩ := hrel
            have HS6 := Lib.hid hs
            have HG6 := Lib.hid hg
            have HB6 := Lib.hid hb
            have hz6 := hg.size
            simp only [World.size_alloc] at hz6
            clear hs hg hb
            by_cases hjl : j < f.blocks[k].ins.length
            · obtain ⟨b2, o2, A2, c2, hA2, hbs2, hat2⟩ := HIw.out.at j hjl
              subst hA2
              have hat6 := hat2.below hbs2 HB6.out
              have g0 := hat6.c0
              have g1 := hat6.c1
              have g2 := hat6.c2
              have g3 := hat6.c3
              have g4 := hat6.c4
              have g5 := hat6.c5
              have g6 := hat6.c6
              have g7 := hat6.c7
              have HAw := Lib.hid hat2.args
              have hal := HAr.out _ (List.getElem_mem hjl)
              clear hat2 hat6
              obtain ⟨wn, hwn⟩ : ∃ wn : World, wn = wr := ⟨_, rfl⟩
              subst hwn
              go_upto_block 3 with fail
              have hnw : wn.heap.size ≠ w2.heap.size := by omega
              have key : ∀ w', Below w.heap.size w w' → (wn.alloc (.cells #[.int .i64 f.blocks[k].ins[j].op, .int .i64 f.blocks[k].ins[j].dst, .int .i64 f.blocks[k].ins[j].a, .int .i64 f.blocks[k].ins[j].b, .int .i64 f.blocks[k].ins[j].imm, .int .i64 f.blocks[k].ins[j].callee, .slice A2 f.blocks[k].ins[j].args.length c2, .int .i64 f.blocks[k].ins[j].many] 45)).grownBy w' (some w2.heap.size) → (Below w.heap.size w w' ∧ (wn.alloc (.cells #[.int .i64 f.blocks[k].ins[j].op, .int .i64 f.blocks[k].ins[j].dst, .int .i64 f.blocks[k].ins[j].a, .int .i64 f.blocks[k].ins[j].b, .int .i64 f.blocks[k].ins[j].imm, .int .i64 f.blocks[k].ins[j].callee, .slice A2 f.blocks[k].ins[j].args.length c2, .int .i64 f.blocks[k].ins[j].many] 45)).grownBy w' (some w2.heap.size) ∧ w'.cell? ⟨wn.heap.size, 0, none⟩ = some (.int .i64 f.blocks[k].ins[j].op) ∧ w'.cell? ⟨wn.heap.size, 1, none⟩ = some (.int .i64 f.blocks[k].ins[j].dst) ∧ w'.cell? ⟨wn.heap.size, 2, none⟩ = some (.int .i64 f.blocks[k].ins[j].a) ∧ w'.cell? ⟨wn.heap.size, 3, none⟩ = some (.int .i64 f.blocks[k].ins[j].b) ∧ w'.cell? ⟨wn.heap.size, 4, none⟩ = some (.int .i64 f.blocks[k].ins[j].imm) ∧ w'.cell? ⟨wn.heap.size, 5, none⟩ = some (.int .i64 f.blocks[k].ins[j].callee) ∧ w'.cell? ⟨wn.heap.size, 6, none⟩ = some (.slice A2 f.blocks[k].ins[j].args.length c2) ∧ w'.cell? ⟨wn.heap.size, 7, none⟩ = some (.int .i64 f.blocks[k].ins[j].many)) := fun w' h hg => ⟨h, hg, (grownBy_cell hg (by simp) hnw).trans (by simp), (grownBy_cell hg (by simp) hnw).trans (by simp), (grownBy_cell hg (by simp) hnw).trans (by simp), (grownBy_cell hg (by simp) hnw).trans (by simp), (grownBy_cell hg (by simp) hnw).trans (by simp), (grownBy_cell hg (by simp) hnw).trans (by simp), (grownBy_cell hg (by simp) hnw).trans (by simp), (grownBy_cell hg (by simp) hnw).trans (by simp)⟩
              have Key := Lib.hid key
              clear key
              have HM : Hid (Mid w (wn.alloc (.cells #[.int .i64 f.blocks[k].ins[j].op, .int .i64 f.blocks[k].ins[j].dst, .int .i64 f.blocks[k].ins[j].a, .int .i64 f.blocks[k].ins[j].b, .int .i64 f.blocks[k].ins[j].imm, .int .i64 f.blocks[k].ins[j].callee, .slice A2 f.blocks[k].ins[j].args.length c2, .int .i64 f.blocks[k].ins[j].many] 45)) w2.heap.size 120 (seenIns ((f.blocks.take k).foldl seenBlk (markL (fun _ => false) f.params)) (f.blocks[k].ins.take j)) (wn.alloc (.cells #[.int .i64 f.blocks[k].ins[j].op, .int .i64 f.blocks[k].ins[j].dst, .int .i64 f.blocks[k].ins[j].a, .int .i64 f.blocks[k].ins[j].b, .int .i64 f.blocks[k].ins[j].imm, .int .i64 f.blocks[k].ins[j].callee, .slice A2 f.blocks[k].ins[j].args.length c2, .int .i64 f.blocks[k].ins[j].many] 45)).drew) := Lib.hid (Mid.start (HB6.out.alloc HB6.out.size _) (HS6.out.alloc _) (by omega)).drew
              go_cut [] from 34 to 43 (fun wc => SetAt wc w2.heap.size 120 (markL (seenIns ((f.blocks.take k).foldl seenBlk (markL (fun _ => false) f.params)) (f.blocks[k].ins.take j)) (readsL f.blocks[k].ins[j] ++ [definesI f.blocks[k].ins[j]])) ∧ Below w.heap.size w wc ∧ (wn.alloc (.cells #[.int .i64 f.blocks[k].ins[j].op, .int .i64 f.blocks[k].ins[j].dst, .int .i64 f.blocks[k].ins[j].a, .int .i64 f.blocks[k].ins[j].b, .int .i64 f.blocks[k].ins[j].imm, .int .i64 f.blocks[k].ins[j].callee, .slice A2 f.blocks[k].ins[j].args.length c2, .int .i64 f.blocks[k].ins[j].many] 45)).grownBy wc (some w2.heap.size))
              case first =>
                go_upto_region 12 with fail
                refine wp_region_held_drew (S := fun w' => Below w.heap.size w w' ∧ (wn.alloc (.cells #[.int .i64 f.blocks[k].ins[j].op, .int .i64 f.blocks[k].ins[j].dst, .int .i64 f.blocks[k].ins[j].a, .int .i64 f.blocks[k].ins[j].b, .int .i64 f.blocks[k].ins[j].imm, .int .i64 f.blocks[k].ins[j].callee, .slice A2 f.blocks[k].ins[j].args.length c2, .int .i64 f.blocks[k].ins[j].many] 45)).grownBy w' (some w2.heap.size) ∧ w'.cell? ⟨wn.heap.size, 0, none⟩ = some (.int .i64 f.blocks[k].ins[j].op) ∧ w'.cell? ⟨wn.heap.size, 1, none⟩ = some (.int .i64 f.blocks[k].ins[j].dst) ∧ w'.cell? ⟨wn.heap.size, 2, none⟩ = some (.int .i64 f.blocks[k].ins[j].a) ∧ w'.cell? ⟨wn.heap.size, 3, none⟩ = some (.int .i64 f.blocks[k].ins[j].b) ∧ w'.cell? ⟨wn.heap.size, 4, none⟩ = some (.int .i64 f.blocks[k].ins[j].imm) ∧ w'.cell? ⟨wn.heap.size, 5, none⟩ = some (.int .i64 f.blocks[k].ins[j].callee) ∧ w'.cell? ⟨wn.heap.size, 6, none⟩ = some (.slice A2 f.blocks[k].ins[j].args.length c2) ∧ w'.cell? ⟨wn.heap.size, 7, none⟩ = some (.int .i64 f.blocks[k].ins[j].many)) (by kernel_rfl) (Key.out _ HM.out.below HM.out.gr) (fun hHeld => ?_)
                refine wpAnyH_take (i := 0) (v := ?_) rfl (by kernel_rfl) (by kernel_rfl) (by kernel_rfl) (fun _ _ _ h => h) (Or.inl ⟨by rfl, ?_⟩) (by assumption) ?_
                rotate_left
                · (intro w hSw; (try dsimp only at hSw); go_simp; (try with_reducible rfl))
                try simp only [Act.put, List.getElem_toArray, List.getElem_cons_zero, List.getElem_cons_succ, List.setIfInBounds_toArray, List.set_cons_zero, List.set_cons_succ]
                refine wpAnyH_take (i := 1) (v := ?_) rfl (by kernel_rfl) (by kernel_rfl) (by kernel_rfl) (fun _ _ _ h => h) (Or.inl ⟨by rfl, ?_⟩) (by assumption) ?_
                rotate_left
                · (intro w hSw; (try dsimp only at hSw); go_simp; (try with_reducible rfl))
                try simp only [Act.put, List.getElem_toArray, List.getElem_cons_zero, List.getElem_cons_succ, List.setIfInBounds_toArray, List.set_cons_zero, List.set_cons_succ]
                refine wpAnyH_take (i := 3) (v := ?_) rfl (by kernel_rfl) (by kernel_rfl) (by kernel_rfl) (fun _ _ _ h => h) (Or.inl ⟨by rfl, ?_⟩) (by assumption) ?_
                rotate_left
                · (intro w hSw; (try dsimp only at hSw); go_simp; (try with_reducible rfl))
                try simp only [Act.put, List.getElem_toArray, List.getElem_cons_zero, List.getElem_cons_succ, List.setIfInBounds_toArray, List.set_cons_zero, List.set_cons_succ]
                refine wpAnyH_ready (rs := [2]) (by kernel_rfl) (by simp) ?_
                refine AllReadyH.cons rfl (fun K hK => ?_) ?_
                · go_simp
                  go_at_call 17
                  refine (reads_any _ A2 c2 f.blocks[k].ins[j] (HAw.out.below HM.out.below) (by omega)).mono ?_
                  rintro e w9 ⟨v9, rfl, hb9, hown9⟩
                  have HMr := Lib.hid (HM.out.call hb9)
                  have hgt9 := HM.out.gt
                  go_wp2_with fail
                  refine hK.out _ _ (Key.out _ HMr.out.below HMr.out.gr) (fun hHeld => ?_)
                  clear hK K
                  try simp only [Act.put, List.getElem_toArray, List.getElem_cons_zero, List.getElem_cons_succ, List.setIfInBounds_toArray, List.set_cons_zero, List.set_cons_succ]
                  refine wpAnyH_ready (rs := [4]) (by kernel_rfl) (by simp) ?_
                  refine AllReadyH.cons rfl (fun K hK => ?_) ?_
                  · go_simp
                    go_at_call 26
                    refine (defines_any _ A2 c2 f.blocks[k].ins[j] (HAw.out.below HMr.out.below)).mono ?_
                    rintro e w10 ⟨rfl, hb10⟩
                    have HMd := Lib.hid (HMr.out.call hb10)
                    go_wp2_with fail
                    refine hK.out _ _ (Key.out _ HMd.out.below HMd.out.gr) (fun hHeld => ?_)
                    clear hK K
                    try simp only [Act.put, List.getElem_toArray, List.getElem_cons_zero, List.getElem_cons_succ, List.setIfInBounds_toArray, List.set_cons_zero, List.set_cons_succ]
                    refine wpAnyH_ready (rs := [5]) (by kernel_rfl) (by simp) ?_
                    refine AllReadyH.cons rfl (fun K hK => ?_) ?_
                    · have HMb := Lib.hid (HMd.out.alloc (.cells #[.int .i64 (definesI f.blocks[k].ins[j])] 3))
                      go_simp
                      refine hK.out _ _ (Key.out _ HMb.out.below HMb.out.gr) (fun hHeld => ?_)
                      clear hK K
                      try simp only [Act.put, List.getElem_toArray, List.getElem_cons_zero, List.getElem_cons_succ, List.setIfInBounds_toArray, List.set_cons_zero, List.set_cons_succ]
                      refine wpAnyH_ready (rs := [6]) (by kernel_rfl) (by simp) ?_
                      refine AllReadyH.cons rfl (fun K hK => ?_) ?_
                      · refine wanted_step rfl ?_
                        refine wp_append_one _ _ 22 rfl (wn.heap.size + 1) 3 Try.underlying22 Try.info3 v9 (readsL f.blocks[k].ins[j]) rfl (ownsRow_weaken (ownsRow_below (ownsRow_below hown9 hb10) ((Below.refl _ _).alloc (Nat.le_refl _) _)) (by simp)) w10.heap.size (definesI f.blocks[k].ins[j]) rfl (by simp) (by have := readsL_len f.blocks[k].ins[j]; omega) (by have := HMb.out.ge; simpa using this) ?_
                        intro v11 w11 hown11 hg11
                        have HM11 := Lib.hid (HMb.out.grown hg11 (fun k hk => by have h9 := ownsRow_base hown9 k hk; simp at h9 ⊢; omega))
                        refine hK.out _ _ (Key.out _ HM11.out.below HM11.out.gr) (fun hHeld => ?_)
                        clear hK K
                        try simp only [Act.put, List.getElem_toArray, List.getElem_cons_zero, List.getElem_cons_succ, List.setIfInBounds_toArray, List.set_cons_zero, List.set_cons_succ]
                        refine wpAnyH_ready (rs := [7]) (by kernel_rfl) (by simp) ?_
                        refine AllReadyH.cons rfl (fun K hK => ?_) ?_
                        · obtain ⟨A11, c11, rfl, hr11, hA11⟩ := ownsRow_RI_base hown11 (by have := readsL_len f.blocks[k].ins[j]; simp; omega)
                          go_simp
                          go_at_call 82
                          refine (mark_any_n _ A11 c11 _ (readsL f.blocks[k].ins[j] ++ [definesI f.blocks[k].ins[j]]) (by simp) w2.heap.size _ hr11 (readsDef_in _) (fun hn b o hA => by have := hA11 b o hA; omega) HM11.out.set).mono ?_
                          rintro e w12 ⟨rfl, hs12, hg12⟩
                          have hb12 : Below w.heap.size w w12 := HM11.out.below.grown hg12 (by have := HM11.out.below.size; omega) (fun k hk => by cases hk; omega)
                          have hgr12 := grownBy_two HM11.out.gr hg12
                          go_wp2_with fail
                          refine hK.out _ _ (Key.out _ hb12 hgr12) (fun hHeld => ?_)
                          clear hK K
                          try simp only [Act.put, List.getElem_toArray, List.getElem_cons_zero, List.getElem_cons_succ, List.setIfInBounds_toArray, List.set_cons_zero, List.set_cons_succ]
                          refine wpAnyH_done (by kernel_rfl) ?_ _
                          go_wp2_with fail
                          go_meet
                          case rel => exact ⟨hs12, hb12, hgr12⟩
                        exact AllReadyH.nil
                      exact AllReadyH.nil
                    exact AllReadyH.nil
                  exact AllReadyH.nil
                exact AllReadyH.nil
              case rest =>
                obtain ⟨hs, hb, hg⟩ := hcut
                have HS9 := Lib.hid hs
                have HB9 := Lib.hid hb
                have HG9 := Lib.hid (grownBy_two (grownBy_below HG6.out ((Below.refl wn.heap.size wn).alloc (Nat.le_refl _) _) HG6.out.size) hg)
                clear hs hb hg
                go_wp2_with fail
                go_roundw
                case rel => exact ⟨j + 1, by omega, by go_num, by rw [take_snoc_eq _ j hjl, seenIns_snoc]; exact HS9.out, HG9.out, HB9.out⟩
                case measure => simp [intOf]; omega
            · have hjl2 : j = f.blocks[k].ins.length := by omega
              subst hjl2
              have hnw : wm.heap.size ≠ w2.heap.size := by omega
              have hc6 : ∀ o, wr.cell? ⟨wm.heap.size, o, none⟩ = (wm.alloc (.cells #[.slice A' f.blocks[k].ins.length c', .int .i64 f.blocks[k].term.kind, .int .i64 f.blocks[k].term.a, .int .i64 f.blocks[k].term.t0, .int .i64 f.blocks[k].term.t1] 39)).cell? ⟨wm.heap.size, o, none⟩ := fun o => grownBy_cell HG6.out (by simp) hnw
              have hn1 := needsL_len f.blocks[k].term
              go_wp2_with (first
                | (go_at_call 18; refine (needs_any _ f.blocks[k].term).mono ?_; rintro e w7 ⟨v, rfl, hb, hown⟩; obtain ⟨A2, c2, rfl, hr, hA2⟩ := ownsRow_RI_base hown (by omega); have HR7 := Lib.hid hr; have HA7 := Lib.hid hA2; have hz7 := hb.size; have HB7 := Lib.hid (HB6.out.trans (hb.mono HB6.out.size)); have HS7 := Lib.hid (HS6.out.below hb (by omega)); clear hr hown hb hA2)
                | (go_at_call 82; refine (mark_any _ A2 c2 (needsL f.blocks[k].term) w2.heap.size _ HR7.out (needsL_in _) (fun hn b o hA => by have := HA7.out b o hA; omega) HS7.out).mono ?_; rintro e w8 ⟨rfl, hs, hg⟩; have HS8 := Lib.hid hs; have HB8 : Hid (Below w.heap.size w w8) := Lib.hid (HB7.out.grown hg HB7.out.size (fun k hk => by cases hk; omega)); clear hs hg))
              go_roundw
              case rel =>
                refine ⟨k + 1, by omega, by go_num, ?_, HB8.out⟩
                rw [take_snoc_eq _ k hlt, fold_snoc]
                have h9 := HS8.out
                rw [List.take_length] at h9
                exact h9
              case measure => simp [intOf]; omega
        · have hkn : k = f.blocks.length := by omega
          subst hkn
          have HSF : Hid (SetAt wr w2.heap.size 120 (seenF f)) := Lib.hid (by have := HS5.out; rw [List.take_length] at this; exact this)
          go_wp2_with fail
          have hs1 := HSF.out.lt
          go_loopw [2, 9] (fun ov kv wr => ∃ k : Nat, 1 ≤ k ∧ k ≤ 201 ∧ kv = .int .i64 k ∧ wr.ownsRow (w2.heap.size + 1) 3 1 ov (upto (seenF f) k).length ((upto (seenF f) k).map (Value.int .i64)) ∧ SetAt wr w2.heap.size 120 (seenF f) ∧ Below w.heap.size w wr) (fun _ kv _ => 201 - (intOf kv).toNat)
          case atStart => exact ⟨1, Nat.le_refl _, by omega, rfl, by simpa [upto] using World.ownsRow_nil _ _ _ _, HSF.out, HB5.out⟩
          case round =>
            obtain ⟨k, hk1, hk2, rfl, hown, hs, hb⟩ := hrel
            have HW9 := Lib.hid hown
            have HS9 := Lib.hid hs
            have HB9 := Lib.hid hb
            have hl9 := hs.lt
            clear hown hs hb
            by_cases hlt : k < 201
            · have hcs := HS9.out.cell k hlt
              have hul := upto_len (seenF f) k
              cases hsk : seenF f k
              · rw [hsk] at hcs
                have Hsk := Lib.hid hsk
                clear hsk
                go_wp2_with fail
                go_roundw
                case rel => exact ⟨k + 1, by omega, by omega, by go_num, by rw [upto_succ _ k hk1, Hsk.out]; exact HW9.out, HS9.out, HB9.out⟩
                case measure => simp [intOf]; omega
              · rw [hsk] at hcs
                have Hsk := Lib.hid hsk
                clear hsk
                go_wp2_with (at_builtin; refine wpList_append_ints rfl _ _ 22 rfl (w2.heap.size + 1) 3 Try.underlying22 Try.info3 _ (upto (seenF f) k) rfl (ownsRow_below HW9.out ((Below.refl _ _).alloc (Nat.le_refl _) _)) _ 1 _ [(k : Int)] rfl rfl (RI.one (by simp) (by simp [go_sem])) (by first | omega | (simp; done) | (simp; omega)) (by first | omega | (simp; done) | (simp; omega)) ?_; intro v' w9 hown hgrow)
                have hob := ownsRow_base HW9.out
                go_roundw
                case rel => exact ⟨k + 1, by omega, by omega, by go_num, by rw [upto_succ _ k hk1, Hsk.out]; exact hown, (hgrow.block w2.heap.size (by simp; omega) (fun e => by have := hob _ e.symm; omega)).trans (HS9.out.alloc _), (HB9.out.alloc HB9.out.size _).grown hgrow (by simp; have := HB9.out.size; omega) (fun k hk => by have := hob k hk; omega)⟩
                case measure => simp [intOf]; omega
            · have hk3 : k = 201 := by omega
              subst hk3
              go_wp2_with fail
              go_ret
              rw [HR.out]
              exact ⟨_, rfl, HB9.out, ownsRow_weaken HW9.out (by omega)⟩
  · have HR : Hid (varsL f = []) := Lib.hid (by unfold varsL; rw [hl]; rfl)
    have Hl2 := Lib.hid hl
    clear hl
    go_wp2_with (go_at_call 73; refine (long_any _ A c B d f hpbig (H.out.below (by go_grown))).mono ?_; rintro e w1 ⟨rfl, hb⟩; rw [Hl2.out]; have HB1 : Hid (Below w.heap.size w w1) := Lib.hid (((Below.refl _ _).alloc (Nat.le_refl _) _).trans (hb.mono (by simp))); clear hb)
    go_ret
    rw [HR.out]
    exact RetRow.nil HB1.out
end Go.Proofs.Ytddgdimjijefhaa
