/- Contract: ir.valued. -/
import Derived.Test.YtnbmmfkkjceehaaA10
import Derived.Test.YtnbmmfkkjceehaaD6
import Derived.Test.YtnbmmfkkjceehaaD7
import Derived.Deep.CutBlock
namespace Go.Proofs.Ytnbmmfkkjceehaa
set_option linter.unusedSimpArgs false
set_option linter.unusedVariables false
open Go.RowKit

theorem Try.infoSet : (Try.prog.info? 106).map (fun i => (i.zero, i.size, i.bytes)) = some (some (.agg (setC fun _ => false)), 201, 201) := by kernel_rfl
theorem Try.boolSize : (Try.prog.info? 4).map (·.size) = some 1 := by kernel_rfl

/-- A new array of truths into which another one is copied. -/
theorem copy_step (w : World) (T : TypeId) (s : SetF) : ∃ W : World, SetAt W w.heap.size T s ∧ Below w.heap.size w W ∧ w.heap.size < W.heap.size ∧ (w.alloc (.cells (setC fun _ => false) T)).setRow w.heap.size (setC s) = W :=
  ⟨_, (SetAt.new w T (fun _ => false)).row s, below_setRow ((Below.refl _ _).alloc (Nat.le_refl _) _) _ _ (Nat.le_refl _), by simp, rfl⟩

/-- A new array of truths that is a copy of another one. -/
theorem wpList_copy_set {P : Program} {ops : Array Oper} {rest : List Oper} {o1 o2 : Oper} {a : Act} {w : World} {Q : Exit → Act → World → Prop} {T : TypeId} (hg1 : o1.guard = none) (ho1 : o1.op = .alloc T) (hg2 : o2.guard = none) (x y : Operand) (ho2 : o2.op = .store T x y)
    (hz : (P.info? T).map (·.zero) = some (some (.agg (setC fun _ => false)))) (hi : (P.info? T).map (·.size) = some 201) (s : SetF)
    (hx : (a.put o1.dst (.pointer (some ⟨w.heap.size, 0, none⟩))).eval x = .pointer (some ⟨w.heap.size, 0, none⟩)) (hy : (a.put o1.dst (.pointer (some ⟨w.heap.size, 0, none⟩))).eval y = .agg (setC s))
    (hK : ∀ W : World, SetAt W w.heap.size T s → Below w.heap.size w W → w.heap.size < W.heap.size → wpList P ops Q rest ((a.put o1.dst (.pointer (some ⟨w.heap.size, 0, none⟩))).put o2.dst undef) W) : wpList P ops Q (o1 :: o2 :: rest) a w := by
  refine wpList_alloc_set hg1 T ho1 hz ?_
  refine wpList_store_set hg2 T x y ho2 w.heap.size (fun _ => false) s hx hy T (SetAt.new w T _) hi ?_
  obtain ⟨W, h1, h2, h3, h4⟩ := copy_step w T s
  rw [h4]
  exact hK W h1 h2 h3

set_option maxRecDepth 100000 in
set_option maxHeartbeats 20000000 in
theorem valued_any (w : World) (A : Option Addr) (c : Nat) (B : Option Addr) (d : Nat) (f : FnD) (hp : RI w A c f.params) (hpin : inSet f.params) (h : RBlk w B d f.blocks) (h0 : 0 < f.blocks.length) (h200 : f.blocks.length ≤ 200) (hE : edgesOK f) (hargs : ∀ x ∈ f.blocks, ∀ i ∈ x.ins, i.args.length ≤ 8) : Calls Try.prog 37 #[fnV A c B d f] w (RetBb (valuedB f) w) := by
  have hpbig := hp.big
  have H := Lib.hid h
  have Hp := Lib.hid hp
  have Hpin := Lib.hid hpin
  have HE := Lib.hid hE
  have Hargs := Lib.hid hargs
  clear h hp hpin hE hargs
  simp only [fnV]
  go_enter Try.func37, Try.ntmps37
  go_wp2_with (at_make; refine wpList_make_sets rfl _ _ 109 rfl 106 Try.underlying109 Try.infoSet f.blocks.length _ _ rfl rfl rfl rfl (by omega) ?_; intro W1 hb1 hrow1; simp only [World.size_alloc] at hb1 hrow1; have hlt1 := hrow1.lt h0; have HB1 := Lib.hid hb1; have HR1 := Lib.hid hrow1; clear hb1 hrow1)
  go_loopw [26] (fun i wr => ∃ k : Nat, k ≤ f.blocks.length ∧ i = .int .i64 k ∧ RowIn wr (w.heap.size + 1) f.blocks.length (fun b => if b < k then fun _ => true else fun _ => false) ∧ Below (w.heap.size + 1) (w.alloc (.cells #[.slice A f.params.length c, .slice B f.blocks.length d] 30)) wr) (fun i _ => f.blocks.length - (intOf i).toNat)
  case atStart => exact ⟨0, Nat.zero_le _, rfl, by simpa using HR1.out, HB1.out⟩
  case round =>
    obtain ⟨k, hk, rfl, hr, hb⟩ := hrel
    have hlr := hr.lt h0
    have HR := Lib.hid hr
    have HB := Lib.hid hb
    clear hr hb
    by_cases hlt : k < f.blocks.length
    · go_wp2_with (first
        | (go_at_call 53; refine (full_any _).mono ?_; rintro e w2 ⟨rfl, hb2⟩; have HR2 := Lib.hid (HR.out.below hb2 hlr); have HB2 := Lib.hid (HB.out.trans (hb2.mono (by omega))); clear hb2)
        | (with_reducible refine wpList_store_set_mid rfl 106 _ _ rfl (w.heap.size + 1) (k * 201) (fun _ => true) rfl rfl (HR2.out.thereAt hlt) Try.setSize ?_))
      go_roundw
      case rel =>
        refine ⟨k + 1, by omega, by go_num, ?_, below_setCells _ (by omega) _ _ _ HB2.out⟩
        have := HR2.out.put hlt (fun _ => true)
        refine rowIn_congr this ?_
        intro b hb
        unfold updR
        by_cases e : b = k
        · subst e; simp
        · by_cases e2 : b < k
          · simp [e, e2, show b < k + 1 by omega]
          · simp [e, e2, show ¬ b < k + 1 by omega]
      case measure => simp [intOf]; omega
    · have hkl : k = f.blocks.length := by omega
      subst hkl
      obtain ⟨wo, hwo⟩ : ∃ wo : World, wo = wr := ⟨_, rfl⟩
      subst hwo
      go_wp2_with (first
        | (with_reducible refine wpList_build_set rfl 106 4 rfl Try.setZero Try.setUnder Try.boolSize ?_)
        | ((with_reducible refine wpList_store_set_mid rfl 106 _ _ rfl (w.heap.size + 1) 0 (fun _ => false) rfl rfl (by simpa using HR.out.thereAt h0) Try.setSize ?_); obtain ⟨W3, hr3, hb3, e3⟩ : ∃ W3, RowIn W3 (w.heap.size + 1) f.blocks.length (fun b => if b = 0 then fun v => decide ((v : Int) ∈ f.params.take 0) else fun _ => true) ∧ Below (w.heap.size + 1) (w.alloc (.cells #[.slice A f.params.length c, .slice B f.blocks.length d] 30)) W3 ∧ wo.setCells (w.heap.size + 1) 0 (setC fun _ => false).toList = W3 := ⟨_, rowIn_congr (by simpa using HR.out.put h0 (fun _ => false)) (fun b hb => by unfold updR; by_cases e : b = 0 <;> simp [e, hb]), below_setCells _ (Nat.le_refl _) _ _ _ HB.out, rfl⟩; rw [e3]; clear e3; obtain ⟨hcb, hfb⟩ := bcell hb3; have HR3 := Lib.hid hr3; have HB3 := Lib.hid hb3; clear hr3 hb3))
      clear hcb hfb
      go_loopw [40] (fun i wr => ∃ k : Nat, k ≤ f.params.length ∧ i = .int .i64 k ∧ RowIn wr (w.heap.size + 1) f.blocks.length (fun b => if b = 0 then fun v => decide ((v : Int) ∈ f.params.take k) else fun _ => true) ∧ Below (w.heap.size + 1) (w.alloc (.cells #[.slice A f.params.length c, .slice B f.blocks.length d] 30)) wr) (fun i _ => f.params.length - (intOf i).toNat)
      case atStart => exact ⟨0, Nat.zero_le _, rfl, HR3.out, HB3.out⟩
      case round =>
        obtain ⟨k, hk, rfl, hr, hb⟩ := hrel
        have hlr := hr.lt h0
        have hbw : Below w.heap.size w wr := ((Below.refl _ _).alloc (Nat.le_refl _) _).trans (hb.mono (by omega))
        have HR := Lib.hid hr
        have HB := Lib.hid hb
        have HBw := Lib.hid hbw
        clear hr hb hbw
        by_cases hlt : k < f.params.length
        · obtain ⟨b, o, hA, hbs, hc⟩ := (Hp.out.below HBw.out).at k hlt
          subst hA
          have hin := Hpin.out _ (List.getElem_mem hlt)
          obtain ⟨v, hvk⟩ := Int.eq_ofNat_of_zero_le hin.1
          have hv1 : v < 201 := by omega
          rw [hvk] at hc
          have Hvk := Lib.hid hvk
          clear hvk hin
          have hcv := HR.out.cell h0 hv1
          have hfv := HR.out.free h0 hv1
          simp only [Nat.zero_mul, Nat.zero_add] at hcv hfv
          go_wp2
          go_roundw
          case rel =>
            refine ⟨k + 1, by omega, by go_num, ?_, HB.out.setCell (Nat.le_refl _) _⟩
            have h3 := HR.out.stored h0 hv1 true
            simp only [Nat.zero_mul, Nat.zero_add] at h3
            refine rowIn_congr h3 ?_
            intro b hb
            unfold updR
            by_cases e : b = 0
            · subst e
              simp only [if_true]
              funext j
              unfold updF
              rw [take_snoc_eq _ k hlt, Hvk.out]
              by_cases e : j = v
              · subst e; simp
              · simp [e]; omega
            · simp [e]
          case measure => simp [intOf]; omega
        · have hkl : k = f.params.length := by omega
          subst hkl
          have HR4 : Hid (RowIn wr (w.heap.size + 1) f.blocks.length (in0 f)) := Lib.hid (rowIn_congr HR.out (fun b hb => by unfold in0; rw [List.take_length]))
          obtain ⟨wp, hwp⟩ : ∃ wp : World, wp = wr := ⟨_, rfl⟩
          subst hwp
          clear HR
          go_wp2_with fail
          go_loopg [7] (truR f.blocks.length (in0 f) + 2) (fun m mv wr => ∃ (mb : Bool) (r : Nat → SetF), mv = .bool mb ∧ RowIn wr (w.heap.size + 1) f.blocks.length r ∧ Below (w.heap.size + 1) (w.alloc (.cells #[.slice A f.params.length c, .slice B f.blocks.length d] 30)) wr ∧ Hid (VInv f r ∧ (if mb then truR f.blocks.length r + 2 ≤ m else 1 ≤ m ∧ ∀ b, b < f.blocks.length → StableAt f r b)))
          case atStart => exact ⟨true, in0 f, rfl, HR4.out, HB.out, Lib.hid ⟨VInv.begin f, Nat.le_refl _⟩⟩
          case round =>
            obtain ⟨mb, r, rfl, hr, hb, HV⟩ := hrel
            have hlr := hr.lt h0
            obtain ⟨hcb, hfb⟩ := bcell hb
            have HR := Lib.hid hr
            have HB5 := Lib.hid hb
            clear hr hb
            obtain ⟨wq, hwq⟩ : ∃ wq : World, wq = wr := ⟨_, rfl⟩
            subst hwq
            cases mb
            · have HFin : Hid (∀ b, b < f.blocks.length → ∀ v, v < 201 → r b v = bareF f b v) := Lib.hid (VInv.finish HV.out.1 HE.out h0 (by have h := HV.out.2; simp only [Bool.false_eq_true, if_false] at h; exact h.2))
              have HPB : Hid (∀ b (hb : b < f.blocks.length), pastB (r b) f.blocks[b] = pastB (bareF f b) f.blocks[b]) := Lib.hid (fun b hb => pastB_congr _ (HFin.out b hb))
              clear HV
              go_wp2_with fail
              clear hcb hfb
              go_loopw [102] (fun i wr => ∃ k : Nat, k ≤ f.blocks.length ∧ i = .int .i64 k ∧ RowIn wr (w.heap.size + 1) f.blocks.length r ∧ Below (w.heap.size + 1) (w.alloc (.cells #[.slice A f.params.length c, .slice B f.blocks.length d] 30)) wr ∧ Hid (∀ b, (hb : b < f.blocks.length) → b < k → pastB (r b) f.blocks[b] = true)) (fun i _ => f.blocks.length - (intOf i).toNat)
              case atStart => exact ⟨0, Nat.zero_le _, rfl, HR.out, HB5.out, Lib.hid (fun b _ h => absurd h (Nat.not_lt_zero _))⟩
              case round =>
                obtain ⟨k, hk, rfl, hr, hb, HP⟩ := hrel
                have hlr := hr.lt h0
                have hbw : Below w.heap.size w wr := ((Below.refl _ _).alloc (Nat.le_refl _) _).trans (hb.mono (by omega))
                have HR6 := Lib.hid hr
                have HB6 := Lib.hid hb
                have HBw := Lib.hid hbw
                clear hr hb hbw
                obtain ⟨wm, hwm⟩ : ∃ wm : World, wm = wr := ⟨_, rfl⟩
                subst hwm
                by_cases hlt : k < f.blocks.length
                · obtain ⟨b, o, A', c', hA, hbs, hat⟩ := (H.out.below HBw.out).at k hlt
                  subst hA
                  have g0 := hat.c0
                  have g1 := hat.c1
                  have g2 := hat.c2
                  have g3 := hat.c3
                  have g4 := hat.c4
                  have HI := Lib.hid hat.ins
                  have hibig := hat.ins.big
                  have HAr := Lib.hid (Hargs.out _ (List.getElem_mem hlt))
                  clear hat
                  go_upto_region 36 with fail
                  have key : ∀ w', Below (wm.heap.size + 1) (wm.alloc (.cells #[.slice A' f.blocks[k].ins.length c', .int .i64 f.blocks[k].term.kind, .int .i64 f.blocks[k].term.a, .int .i64 f.blocks[k].term.t0, .int .i64 f.blocks[k].term.t1] 55)) w' → (Below (wm.heap.size + 1) (wm.alloc (.cells #[.slice A' f.blocks[k].ins.length c', .int .i64 f.blocks[k].term.kind, .int .i64 f.blocks[k].term.a, .int .i64 f.blocks[k].term.t0, .int .i64 f.blocks[k].term.t1] 55)) w' ∧ SetIn w' (w.heap.size + 1) (k * 201) (r k) ∧ w'.cell? ⟨wm.heap.size, 0, none⟩ = some (.slice A' f.blocks[k].ins.length c') ∧ w'.cell? ⟨wm.heap.size, 1, none⟩ = some (.int .i64 f.blocks[k].term.kind) ∧ w'.cell? ⟨wm.heap.size, 2, none⟩ = some (.int .i64 f.blocks[k].term.a) ∧ w'.cell? ⟨wm.heap.size, 3, none⟩ = some (.int .i64 f.blocks[k].term.t0) ∧ w'.cell? ⟨wm.heap.size, 4, none⟩ = some (.int .i64 f.blocks[k].term.t1)) := fun w' h => ⟨h, ((HR6.out.get k hlt).alloc _).below h (by omega), (h.cell (p := ⟨wm.heap.size, 0, none⟩) (Nat.lt_succ_self _)).trans (by simp), (h.cell (p := ⟨wm.heap.size, 1, none⟩) (Nat.lt_succ_self _)).trans (by simp), (h.cell (p := ⟨wm.heap.size, 2, none⟩) (Nat.lt_succ_self _)).trans (by simp), (h.cell (p := ⟨wm.heap.size, 3, none⟩) (Nat.lt_succ_self _)).trans (by simp), (h.cell (p := ⟨wm.heap.size, 4, none⟩) (Nat.lt_succ_self _)).trans (by simp)⟩
                  go_cut [19] from 107 to 115 (fun v wc => v = .bool (pastB (r k) f.blocks[k]) ∧ Below (wm.heap.size + 1) (wm.alloc (.cells #[.slice A' f.blocks[k].ins.length c', .int .i64 f.blocks[k].term.kind, .int .i64 f.blocks[k].term.a, .int .i64 f.blocks[k].term.t0, .int .i64 f.blocks[k].term.t1] 55)) wc)
                  case first =>
                    refine wp_region_held_drew (S := fun w' => Below (wm.heap.size + 1) (wm.alloc (.cells #[.slice A' f.blocks[k].ins.length c', .int .i64 f.blocks[k].term.kind, .int .i64 f.blocks[k].term.a, .int .i64 f.blocks[k].term.t0, .int .i64 f.blocks[k].term.t1] 55)) w' ∧ SetIn w' (w.heap.size + 1) (k * 201) (r k) ∧ w'.cell? ⟨wm.heap.size, 0, none⟩ = some (.slice A' f.blocks[k].ins.length c') ∧ w'.cell? ⟨wm.heap.size, 1, none⟩ = some (.int .i64 f.blocks[k].term.kind) ∧ w'.cell? ⟨wm.heap.size, 2, none⟩ = some (.int .i64 f.blocks[k].term.a) ∧ w'.cell? ⟨wm.heap.size, 3, none⟩ = some (.int .i64 f.blocks[k].term.t0) ∧ w'.cell? ⟨wm.heap.size, 4, none⟩ = some (.int .i64 f.blocks[k].term.t1)) (by kernel_rfl) (key _ (Below.refl _ _).drew) (fun hHeld => ?_)
                    refine wpAnyH_take (i := 0) (v := ?_) rfl (by kernel_rfl) (by kernel_rfl) (by kernel_rfl) (fun _ _ _ h => h) (Or.inl ⟨by rfl, ?_⟩) (by assumption) ?_
                    rotate_left
                    · (intro w hSw; (try dsimp only at hSw); go_simp; (try with_reducible rfl))
                    try simp only [Act.put, List.getElem_toArray, List.getElem_cons_zero, List.getElem_cons_succ, List.setIfInBounds_toArray, List.set_cons_zero, List.set_cons_succ]
                    refine wpAnyH_take (i := 1) (v := ?_) rfl (by kernel_rfl) (by kernel_rfl) (by kernel_rfl) (fun _ _ _ h => h) (Or.inl ⟨by rfl, ?_⟩) (by assumption) ?_
                    rotate_left
                    · (intro w hSw; (try dsimp only at hSw); go_simp; (try with_reducible rfl))
                    try simp only [Act.put, List.getElem_toArray, List.getElem_cons_zero, List.getElem_cons_succ, List.setIfInBounds_toArray, List.set_cons_zero, List.set_cons_succ]
                    refine wpAnyH_take (i := 2) (v := ?_) rfl (by kernel_rfl) (by kernel_rfl) (by kernel_rfl) (fun _ _ _ h => h) (Or.inl ⟨by rfl, ?_⟩) (by assumption) ?_
                    rotate_left
                    · (intro w hSw; (try dsimp only at hSw); go_simp; (try with_reducible rfl))
                    try simp only [Act.put, List.getElem_toArray, List.getElem_cons_zero, List.getElem_cons_succ, List.setIfInBounds_toArray, List.set_cons_zero, List.set_cons_succ]
                    refine wpAnyH_take (i := 3) rfl (by kernel_rfl) (by kernel_rfl) (by kernel_rfl) (fun _ _ _ h => h) (yieldsIf_load_set (by rfl) 106 _ rfl (w.heap.size + 1) (k * 201) rfl (r k) (fun _ h => h.2.1) _ Try.setUnder Try.setSize) (by assumption) ?_
                    try simp only [Act.put, List.getElem_toArray, List.getElem_cons_zero, List.getElem_cons_succ, List.setIfInBounds_toArray, List.set_cons_zero, List.set_cons_succ]
                    refine wpAnyH_take (i := 4) (v := ?_) rfl (by kernel_rfl) (by kernel_rfl) (by kernel_rfl) (fun _ _ _ h => h) (Or.inl ⟨by rfl, ?_⟩) (by assumption) ?_
                    rotate_left
                    · (intro w hSw; (try dsimp only at hSw); go_simp; (try with_reducible rfl))
                    try simp only [Act.put, List.getElem_toArray, List.getElem_cons_zero, List.getElem_cons_succ, List.setIfInBounds_toArray, List.set_cons_zero, List.set_cons_succ]
                    refine wpAnyH_ready (rs := [5, 9]) (by kernel_rfl) (by simp) ?_
                    refine AllReadyH.cons rfl (fun K hK => ?_) ?_
                    · go_simp
                      go_at_call 55
                      refine (past_any _ (r k) A' c' f.blocks[k] (HI.out.below (((Below.refl wm.heap.size wm).alloc (Nat.le_refl _) _).trans (((Below.refl (wm.heap.size + 1) (wm.alloc _)).drew).mono (Nat.le_succ _)))) HAr.out).mono ?_
                      rintro e w9 ⟨tt, rfl, hb9⟩
                      go_wp2_with fail
                      refine hK.out _ _ (key _ ((Below.refl (wm.heap.size + 1) (wm.alloc _)).drew.trans (hb9.mono (by simp)))) (fun hHeld => ?_)
                      clear hK K
                      try simp only [Act.put, List.getElem_toArray, List.getElem_cons_zero, List.getElem_cons_succ, List.setIfInBounds_toArray, List.set_cons_zero, List.set_cons_succ]
                      refine wpAnyH_take (i := 6) (v := ?_) rfl (by kernel_rfl) (by kernel_rfl) (by kernel_rfl) (fun _ _ _ h => h) (Or.inl ⟨by rfl, ?_⟩) (by assumption) ?_
                      rotate_left
                      · (intro w hSw; (try dsimp only at hSw); go_simp; (try with_reducible rfl))
                      try simp only [Act.put, List.getElem_toArray, List.getElem_cons_zero, List.getElem_cons_succ, List.setIfInBounds_toArray, List.set_cons_zero, List.set_cons_succ]
                      refine wpAnyH_take (i := 7) (v := ?_) rfl (by kernel_rfl) (by kernel_rfl) (by kernel_rfl) (fun _ _ _ h => h) (Or.inl ⟨by rfl, ?_⟩) (by assumption) ?_
                      rotate_left
                      · (intro w hSw; (try dsimp only at hSw); go_simp; (try with_reducible rfl))
                      try simp only [Act.put, List.getElem_toArray, List.getElem_cons_zero, List.getElem_cons_succ, List.setIfInBounds_toArray, List.set_cons_zero, List.set_cons_succ]
                      refine wpAnyH_take (i := 8) (v := ?_) rfl (by kernel_rfl) (by kernel_rfl) (by kernel_rfl) (fun _ _ _ h => h) (Or.inl ⟨by rfl, ?_⟩) (by assumption) ?_
                      rotate_left
                      · (intro w hSw; (try dsimp only at hSw); go_simp; (try with_reducible rfl))
                      try simp only [Act.put, List.getElem_toArray, List.getElem_cons_zero, List.getElem_cons_succ, List.setIfInBounds_toArray, List.set_cons_zero, List.set_cons_succ]
                      refine wpAnyH_alloc_set 9 (by kernel_rfl) rfl rfl 106 rfl Try.setZero (key _ (((Below.refl (wm.heap.size + 1) (wm.alloc _)).drew.trans (hb9.mono (by simp))).alloc (by have := hb9.size; simp at this; omega) _)) (fun hHeld => ?_)
                      try simp only [Act.put, List.getElem_toArray, List.getElem_cons_zero, List.getElem_cons_succ, List.setIfInBounds_toArray, List.set_cons_zero, List.set_cons_succ]
                      refine wpAnyH_store_set_new 10 (by kernel_rfl) rfl rfl 106 _ _ rfl (w9.heap.size) tt rfl rfl 106 (fun _ => false) (SetAt.new w9 106 _) Try.setSize (key _ (below_setCells _ (by have := hb9.size; simp at this; omega) _ _ _ (((Below.refl (wm.heap.size + 1) (wm.alloc _)).drew.trans (hb9.mono (by simp))).alloc (by have := hb9.size; simp at this; omega) _))) (fun hHeld => ?_)
                      try simp only [Act.put, List.getElem_toArray, List.getElem_cons_zero, List.getElem_cons_succ, List.setIfInBounds_toArray, List.set_cons_zero, List.set_cons_succ]
                      refine wpAnyH_take (i := 11) (v := ?_) rfl (by kernel_rfl) (by kernel_rfl) (by kernel_rfl) (fun _ _ _ h => h) (Or.inl ⟨by rfl, ?_⟩) (by assumption) ?_
                      rotate_left
                      · (intro w hSw; (try dsimp only at hSw); go_simp; (try with_reducible rfl))
                      try simp only [Act.put, List.getElem_toArray, List.getElem_cons_zero, List.getElem_cons_succ, List.setIfInBounds_toArray, List.set_cons_zero, List.set_cons_succ]
                      refine wpAnyH_done (by kernel_rfl) ?_ _
                      go_wp2_with fail
                      go_meet
                      case rel => exact ⟨rfl, hHeld.1⟩
                    refine AllReadyH.cons rfl (fun K hK => ?_) ?_
                    · refine wanted_step rfl ?_
                      refine wp_alloc_set 106 rfl Try.setZero ?_
                      refine hK.out _ _ (key _ ((Below.refl (wm.heap.size + 1) (wm.alloc _)).drew.alloc (by simp) _)) (fun hHeld => ?_)
                      clear hK K
                      try simp only [Act.put, List.getElem_toArray, List.getElem_cons_zero, List.getElem_cons_succ, List.setIfInBounds_toArray, List.set_cons_zero, List.set_cons_succ]
                      refine wpAnyH_ready (rs := [5]) (by kernel_rfl) (by simp) ?_
                      refine AllReadyH.cons rfl (fun K hK => ?_) ?_
                      · go_simp
                        go_at_call 55
                        refine (past_any _ (r k) A' c' f.blocks[k] (HI.out.below (((Below.refl wm.heap.size wm).alloc (Nat.le_refl _) _).trans (((Below.refl (wm.heap.size + 1) (wm.alloc _)).drew.alloc (by simp) _).mono (Nat.le_succ _)))) HAr.out).mono ?_
                        rintro e w9 ⟨tt, rfl, hb9⟩
                        go_wp2_with fail
                        refine hK.out _ _ (key _ (((Below.refl (wm.heap.size + 1) (wm.alloc _)).drew.alloc (by simp) _).trans (hb9.mono (by simp)))) (fun hHeld => ?_)
                        clear hK K
                        try simp only [Act.put, List.getElem_toArray, List.getElem_cons_zero, List.getElem_cons_succ, List.setIfInBounds_toArray, List.set_cons_zero, List.set_cons_succ]
                        refine wpAnyH_take (i := 6) (v := ?_) rfl (by kernel_rfl) (by kernel_rfl) (by kernel_rfl) (fun _ _ _ h => h) (Or.inl ⟨by rfl, ?_⟩) (by assumption) ?_
                        rotate_left
                        · (intro w hSw; (try dsimp only at hSw); go_simp; (try with_reducible rfl))
                        try simp only [Act.put, List.getElem_toArray, List.getElem_cons_zero, List.getElem_cons_succ, List.setIfInBounds_toArray, List.set_cons_zero, List.set_cons_succ]
                        refine wpAnyH_take (i := 7) (v := ?_) rfl (by kernel_rfl) (by kernel_rfl) (by kernel_rfl) (fun _ _ _ h => h) (Or.inl ⟨by rfl, ?_⟩) (by assumption) ?_
                        rotate_left
                        · (intro w hSw; (try dsimp only at hSw); go_simp; (try with_reducible rfl))
                        try simp only [Act.put, List.getElem_toArray, List.getElem_cons_zero, List.getElem_cons_succ, List.setIfInBounds_toArray, List.set_cons_zero, List.set_cons_succ]
                        refine wpAnyH_take (i := 8) (v := ?_) rfl (by kernel_rfl) (by kernel_rfl) (by kernel_rfl) (fun _ _ _ h => h) (Or.inl ⟨by rfl, ?_⟩) (by assumption) ?_
                        rotate_left
                        · (intro w hSw; (try dsimp only at hSw); go_simp; (try with_reducible rfl))
                        try simp only [Act.put, List.getElem_toArray, List.getElem_cons_zero, List.getElem_cons_succ, List.setIfInBounds_toArray, List.set_cons_zero, List.set_cons_succ]
                        refine wpAnyH_store_set_new 10 (by kernel_rfl) rfl rfl 106 _ _ rfl (wm.heap.size + 1) tt rfl rfl 106 (fun _ => false) (by have h5 := (SetAt.new (wm.alloc (.cells #[.slice A' f.blocks[k].ins.length c', .int .i64 f.blocks[k].term.kind, .int .i64 f.blocks[k].term.a, .int .i64 f.blocks[k].term.t0, .int .i64 f.blocks[k].term.t1] 55)).drew 106 (fun _ => false)).below hb9 (by simp); simpa using h5) Try.setSize (key _ (below_setCells _ (by simp) _ _ _ (((Below.refl (wm.heap.size + 1) (wm.alloc _)).drew.alloc (by simp) _).trans (hb9.mono (by simp))))) (fun hHeld => ?_)
                        try simp only [Act.put, List.getElem_toArray, List.getElem_cons_zero, List.getElem_cons_succ, List.setIfInBounds_toArray, List.set_cons_zero, List.set_cons_succ]
                        refine wpAnyH_take (i := 11) (v := ?_) rfl (by kernel_rfl) (by kernel_rfl) (by kernel_rfl) (fun _ _ _ h => h) (Or.inl ⟨by rfl, ?_⟩) (by assumption) ?_
                        rotate_left
                        · (intro w hSw; (try dsimp only at hSw); go_simp; (try with_reducible rfl))
                        try simp only [Act.put, List.getElem_toArray, List.getElem_cons_zero, List.getElem_cons_succ, List.setIfInBounds_toArray, List.set_cons_zero, List.set_cons_succ]
                        refine wpAnyH_done (by kernel_rfl) ?_ _
                        go_wp2_with fail
                        go_meet
                        case rel => exact ⟨rfl, hHeld.1⟩
                      exact AllReadyH.nil
                    exact AllReadyH.nil
                  case rest =>
                    obtain ⟨rfl, hbc⟩ := hcut
                    have HBc := Lib.hid (((Below.refl wm.heap.size wm).alloc (Nat.le_refl _) (.cells #[.slice A' f.blocks[k].ins.length c', .int .i64 f.blocks[k].term.kind, .int .i64 f.blocks[k].term.a, .int .i64 f.blocks[k].term.t0, .int .i64 f.blocks[k].term.t1] 55)).trans (hbc.mono (Nat.le_succ _)))
                    have hcsz := HBc.out.size
                    clear hbc
                    cases hp : pastB (r k) f.blocks[k]
                    · have Hp2 := Lib.hid hp
                      clear hp
                      have HV2 : Hid (valuedB f = false) := Lib.hid (by unfold valuedB; simp only [decide_eq_false_iff_not]; intro h; have := h k hlt; rw [← HPB.out k hlt, Hp2.out] at this; cases this)
                      go_wp2_with fail
                      go_ret
                      rw [HV2.out]
                      exact ⟨rfl, ((Below.refl _ _).alloc (Nat.le_refl _) _).trans ((HB6.out.trans (HBc.out.mono (by omega))).mono (by omega))⟩
                    · have Hp2 := Lib.hid hp
                      clear hp
                      go_wp2_with fail
                      go_roundw
                      case rel =>
                        refine ⟨k + 1, by omega, by go_num, HR6.out.below HBc.out hlr, HB6.out.trans (HBc.out.mono (by omega)), Lib.hid (fun b hb hbk => ?_)⟩
                        by_cases e : b = k
                        · subst e; exact Hp2.out
                        · exact HP.out b hb (by omega)
                      case measure => simp [intOf]; omega
                · have hkn : k = f.blocks.length := by omega
                  subst hkn
                  have HV2 : Hid (valuedB f = true) := Lib.hid (by unfold valuedB; simp only [decide_eq_true_iff]; intro b hb; rw [← HPB.out b hb]; exact HP.out b hb hb)
                  go_wp2_with fail
                  go_ret
                  rw [HV2.out]
                  exact ⟨rfl, HBw.out⟩
            · have HV1 := Lib.hid HV.out.1
              have hgk : truR f.blocks.length r + 2 ≤ gk := by have := HV.out.2; simpa using this
              clear HV
              go_wp2_with fail
              clear hcb hfb
              go_loopw [7, 53] (fun mv i wr => ∃ (k : Nat) (mb : Bool) (r' : Nat → SetF), k ≤ f.blocks.length ∧ mv = .bool mb ∧ i = .int .i64 k ∧ RowIn wr (w.heap.size + 1) f.blocks.length r' ∧ Below (w.heap.size + 1) (w.alloc (.cells #[.slice A f.params.length c, .slice B f.blocks.length d] 30)) wr ∧ Hid (VInv f r' ∧ (if mb then truR f.blocks.length r' + 1 ≤ truR f.blocks.length r else r' = r ∧ ∀ b, b < k → StableAt f r b))) (fun _ i _ => f.blocks.length - (intOf i).toNat)
              case atStart => exact ⟨0, false, r, Nat.zero_le _, rfl, rfl, HR.out, HB5.out, Lib.hid ⟨HV1.out, rfl, fun b hb => absurd hb (Nat.not_lt_zero _)⟩⟩
              case round =>
                obtain ⟨k, mb, r', hk, rfl, rfl, hr, hb, HW⟩ := hrel
                have hlr := hr.lt h0
                have hbw : Below w.heap.size w wr := ((Below.refl _ _).alloc (Nat.le_refl _) _).trans (hb.mono (by omega))
                have HR6 := Lib.hid hr
                have HB6 := Lib.hid hb
                have HBw := Lib.hid hbw
                clear hr hb hbw
                obtain ⟨wm, hwm⟩ : ∃ wm : World, wm = wr := ⟨_, rfl⟩
                subst hwm
                by_cases hlt : k < f.blocks.length
                · obtain ⟨b, o, A', c', hA, hbs, hat⟩ := (H.out.below HBw.out).at k hlt
                  subst hA
                  have g0 := hat.c0
                  have g1 := hat.c1
                  have g2 := hat.c2
                  have g3 := hat.c3
                  have g4 := hat.c4
                  have HI := Lib.hid hat.ins
                  have hibig := hat.ins.big
                  have HAr := Lib.hid (Hargs.out _ (List.getElem_mem hlt))
                  clear hat
                  go_wp2_with (first
                    | (with_reducible refine wpList_load_set_mid rfl 106 _ rfl (w.heap.size + 1) (k * 201) (r' k) rfl ((HR6.out.alloc h0 _).get k hlt) _ Try.setUnder Try.setSize ?_)
                    | ((with_reducible refine wpList_copy_set rfl rfl rfl _ _ rfl Try.setZero Try.setSize (r' k) ?_ ?_ ?_); (rfl); (rfl); intro W5 hs5 hb5 hx5; simp only [World.size_alloc] at hs5 hb5 hx5; have c5a := hb5.cell (p := ⟨wm.heap.size, 0, none⟩) (by simp); have c5b := hb5.cell (p := ⟨wm.heap.size, 1, none⟩) (by simp); have c5c := hb5.cell (p := ⟨wm.heap.size, 2, none⟩) (by simp); have c5d := hb5.cell (p := ⟨wm.heap.size, 3, none⟩) (by simp); have c5e := hb5.cell (p := ⟨wm.heap.size, 4, none⟩) (by simp); simp only [World.cell?_alloc_new] at c5a c5b c5c c5d c5e; have HS5 := Lib.hid hs5; have HB5' := Lib.hid hb5; clear hs5 hb5))
                  go_loopw [65] (fun i wr2 => ∃ j : Nat, j ≤ f.blocks[k].ins.length ∧ i = .int .i64 j ∧ SetAt wr2 (wm.heap.size + 1) 106 (outF (r' k) (f.blocks[k].ins.take j)) ∧ Below (wm.heap.size + 1) (wm.alloc (.cells #[.slice A' f.blocks[k].ins.length c', .int .i64 f.blocks[k].term.kind, .int .i64 f.blocks[k].term.a, .int .i64 f.blocks[k].term.t0, .int .i64 f.blocks[k].term.t1] 55)) wr2) (fun i _ => f.blocks[k].ins.length - (intOf i).toNat)
                  case atStart => exact ⟨0, Nat.zero_le _, rfl, HS5.out, HB5'.out⟩
                  case round =>
                    obtain ⟨j, hj, rfl, hs, hb⟩ := hrel
                    have hxl := hs.lt
                    have HS := Lib.hid hs
                    have HB7 := Lib.hid hb
                    obtain ⟨hc7, hf7⟩ := bcell hb
                    have HBr := Lib.hid (((Below.refl _ _).alloc (Nat.le_refl _) _).trans (hb.mono (Nat.le_succ _)))
                    clear hs hb
                    by_cases hjl : j < f.blocks[k].ins.length
                    · clear hc7 hf7
                      obtain ⟨b2, o2, A2, c2, hA, hbs2, hat⟩ := (HI.out.below HBr.out).at j hjl
                      subst hA
                      have g0 := hat.c0
                      have g1 := hat.c1
                      have g2 := hat.c2
                      have g3 := hat.c3
                      have g4 := hat.c4
                      have g5 := hat.c5
                      have g6 := hat.c6
                      have g7 := hat.c7
                      have HA := Lib.hid hat.args
                      clear hat
                      have hdi := definesI_in (f.blocks[k].ins[j])
                      obtain ⟨dn, hdn⟩ := Int.eq_ofNat_of_zero_le hdi.1
                      have hdn201 : dn < 201 := by omega
                      have Hdn := Lib.hid hdn
                      clear hdn hdi
                      go_wp2_with (first
                        | (go_at_call 20; refine (defines_any _ A2 c2 (f.blocks[k].ins[j]) (HA.out.below ((Below.refl _ _).alloc (Nat.le_refl _) _))).mono ?_; rintro e w3 ⟨rfl, hb⟩; rw [Hdn.out]; have HS3 := Lib.hid ((HS.out.alloc _).below hb (by simp; omega)); have hfs := HS3.out.free dn; have hcs := HS3.out.cell dn hdn201; have HB3 := Lib.hid ((HB7.out.alloc (by omega) _).trans (hb.mono (by simp; omega))); clear hb))
                      go_roundw
                      case rel =>
                        refine ⟨j + 1, by omega, by go_num, ?_, HB3.out.setCell (Nat.le_refl _) _⟩
                        have := HS3.out.stored dn hdn201 true
                        rw [take_snoc_eq _ j hjl, outF_snoc, Hdn.out]
                        exact this
                      case measure => simp [intOf]; omega
                    · have hjl2 : j = f.blocks[k].ins.length := by omega
                      subst hjl2
                      have HO : Hid (SetIn wr (wm.heap.size + 1) 0 (outF (r' k) f.blocks[k].ins)) := Lib.hid (by have := HS.out.in; rwa [List.take_length] at this)
                      have htl : (toL f.blocks[k].term).length ≤ 2 := toL_len _
                      go_wp2_with (go_at_call 33; refine (to_any _ f.blocks[k].term).mono ?_; rintro e w7 ⟨v, rfl, hb, hown⟩; obtain ⟨A2, c2, rfl, hr, hA2⟩ := ownsRow_RI_base hown (by omega); have HT := Lib.hid hr; have hz7 := hb.size; have HO7 := Lib.hid (HO.out.below hb (by omega)); have HB7' := Lib.hid (HBr.out.trans (hb.mono (by have := HBr.out.size; omega))); have HR7 := Lib.hid (HR6.out.below HB7'.out hlr); have HBB7 := Lib.hid (HB6.out.trans (HB7'.out.mono (by omega))); have HA2 : Hid (∀ b o, A2 = some ⟨b, o, none⟩ → b ≠ w.heap.size + 1) := Lib.hid (fun b o h => by have := hA2 b o h; omega); clear hr hown hb hA2)
                      have HOK : Hid (OutOK f (outF (r' k) f.blocks[k].ins) k) := Lib.hid (HW.out.1.out hlt)
                      have HTI : Hid (TInv f r r' (outF (r' k) f.blocks[k].ins) k [] mb) := Lib.hid (TInv.start hlt HW.out)
                      obtain ⟨O, hO⟩ : ∃ O, O = outF (r' k) f.blocks[k].ins := ⟨_, rfl⟩
                      rw [← hO] at HOK HTI HO7
                      have hx7 : wm.heap.size + 1 < w7.heap.size := by omega
                      clear hO HS HB7 HO HBr hc7 hf7 HS5 HB5' c5a c5b c5c c5d c5e
                      go_loopw [7, 77] (fun mv i wr => ∃ (j : Nat) (mb2 : Bool) (r2 : Nat → SetF), j ≤ (toL f.blocks[k].term).length ∧ mv = .bool mb2 ∧ i = .int .i64 j ∧ RowIn wr (w.heap.size + 1) f.blocks.length r2 ∧ w7.grownBy wr (some (w.heap.size + 1)) ∧ Below (w.heap.size + 1) (w.alloc (.cells #[.slice A f.params.length c, .slice (some ⟨b, o, none⟩) f.blocks.length d] 30)) wr ∧ Hid (TInv f r r2 O k ((toL f.blocks[k].term).take j) mb2)) (fun _ i _ => (toL f.blocks[k].term).length - (intOf i).toNat)
                      case atStart => exact ⟨0, mb, r', Nat.zero_le _, rfl, rfl, HR7.out, grownBy_refl _ _, HBB7.out, HTI⟩
                      case round =>
                        obtain ⟨j, mb2, r2, hj, rfl, rfl, hr, hg, hb, HTI2⟩ := hrel
                        have HR8 := Lib.hid hr
                        have HG8 := Lib.hid hg
                        have HB8 := Lib.hid hb
                        have hsz8 := hg.size
                        clear hr hg hb
                        by_cases hjl : j < (toL f.blocks[k].term).length
                        · obtain ⟨b2, o2, hA, hbs2, hc⟩ := (RI_kept HT.out HA2.out HG8.out).at j hjl
                          subst hA
                          obtain ⟨he1, he2⟩ := HE.out _ (List.getElem_mem hlt) _ (List.getElem_mem hjl)
                          obtain ⟨u, hu⟩ := Int.eq_ofNat_of_zero_le (show 0 ≤ (toL f.blocks[k].term)[j] by omega)
                          rw [hu] at hc he1 he2
                          have hun : u < f.blocks.length := by omega
                          have Hu := Lib.hid hu
                          clear hu
                          go_upto_region 28 with fail
                          obtain ⟨wt, hwt⟩ : ∃ wt : World, wt = wr := ⟨_, rfl⟩
                          subst hwt
                          have hgl := HR8.out.lt h0
                          have HX8 : Hid (SetIn wt (wm.heap.size + 1) 0 O) := Lib.hid (SetIn_kept HO7.out (by omega) HG8.out)
                          go_cut [15] from 81 to 86 (fun v wc => ∃ N : Nat, v = .pointer (some ⟨N, 0, none⟩) ∧ wt.heap.size ≤ N ∧ SetIn wc N 0 (fun v => r2 u v && O v) ∧ Below wt.heap.size wt wc)
                          case first =>
                            refine wp_region_held_drew (S := fun w' => Below wt.heap.size wt w' ∧ SetIn w' (w.heap.size + 1) (u * 201) (r2 u) ∧ SetIn w' (wm.heap.size + 1) 0 O) (by kernel_rfl) ⟨(Below.refl _ _).drew, HR8.out.get u hun, HX8.out⟩ (fun hHeld => ?_)
                            refine wpAnyH_take (i := 0) (v := ?_) rfl (by kernel_rfl) (by kernel_rfl) (by kernel_rfl) (fun _ _ _ h => h) (Or.inl ⟨by rfl, ?_⟩) (by assumption) ?_
                            rotate_left
                            · (intro w hSw; (try dsimp only at hSw); go_simp; (try with_reducible rfl))
                            try simp only [Act.put, List.getElem_toArray, List.getElem_cons_zero, List.getElem_cons_succ, List.setIfInBounds_toArray, List.set_cons_zero, List.set_cons_succ]
                            refine wpAnyH_take (i := 1) (v := ?_) rfl (by kernel_rfl) (by kernel_rfl) (by kernel_rfl) (fun _ _ _ h => h) (Or.inl ⟨by rfl, ?_⟩) (by assumption) ?_
                            rotate_left
                            · (intro w hSw; (try dsimp only at hSw); go_simp; (try with_reducible rfl))
                            try simp only [Act.put, List.getElem_toArray, List.getElem_cons_zero, List.getElem_cons_succ, List.setIfInBounds_toArray, List.set_cons_zero, List.set_cons_succ]
                            refine wpAnyH_take (i := 2) (v := ?_) rfl (by kernel_rfl) (by kernel_rfl) (by kernel_rfl) (fun _ _ _ h => h) (Or.inl ⟨by rfl, ?_⟩) (by assumption) ?_
                            rotate_left
                            · (intro w hSw; (try dsimp only at hSw); go_simp; (try with_reducible rfl))
                            try simp only [Act.put, List.getElem_toArray, List.getElem_cons_zero, List.getElem_cons_succ, List.setIfInBounds_toArray, List.set_cons_zero, List.set_cons_succ]
                            refine wpAnyH_take (i := 3) rfl (by kernel_rfl) (by kernel_rfl) (by kernel_rfl) (fun _ _ _ h => h) (yieldsIf_load_set (by rfl) 106 _ rfl (w.heap.size + 1) (u * 201) rfl (r2 u) (fun _ h => h.2.1) _ Try.setUnder Try.setSize) (by assumption) ?_
                            try simp only [Act.put, List.getElem_toArray, List.getElem_cons_zero, List.getElem_cons_succ, List.setIfInBounds_toArray, List.set_cons_zero, List.set_cons_succ]
                            refine wpAnyH_take (i := 4) rfl (by kernel_rfl) (by kernel_rfl) (by kernel_rfl) (fun _ _ _ h => h) (yieldsIf_load_set (by rfl) 106 _ rfl (wm.heap.size + 1) (0) rfl (O) (fun _ h => h.2.2) _ Try.setUnder Try.setSize) (by assumption) ?_
                            try simp only [Act.put, List.getElem_toArray, List.getElem_cons_zero, List.getElem_cons_succ, List.setIfInBounds_toArray, List.set_cons_zero, List.set_cons_succ]
                            refine wpAnyH_ready (rs := [5, 6]) (by kernel_rfl) (by simp) ?_
                            have key : ∀ w', Below wt.heap.size wt w' → (Below wt.heap.size wt w' ∧ SetIn w' (w.heap.size + 1) (u * 201) (r2 u) ∧ SetIn w' (wm.heap.size + 1) 0 O) := fun w' h => ⟨h, (HR8.out.get u hun).below h hgl, HX8.out.below h (by omega)⟩
                            refine AllReadyH.cons rfl (fun K hK => ?_) ?_
                            · go_simp
                              go_at_call 54
                              refine (meet_any _ (r2 u) O).mono ?_
                              rintro e w9 ⟨rfl, hb9⟩
                              go_wp2_with fail
                              refine hK.out _ _ (key _ ((Below.refl _ _).drew.trans hb9)) (fun hHeld => ?_)
                              clear hK K
                              try simp only [Act.put, List.getElem_toArray, List.getElem_cons_zero, List.getElem_cons_succ, List.setIfInBounds_toArray, List.set_cons_zero, List.set_cons_succ]
                              refine wpAnyH_alloc_set 6 (by kernel_rfl) rfl rfl 106 rfl Try.setZero (key _ (((Below.refl _ _).drew.trans hb9).alloc hb9.size _)) (fun hHeld => ?_)
                              try simp only [Act.put, List.getElem_toArray, List.getElem_cons_zero, List.getElem_cons_succ, List.setIfInBounds_toArray, List.set_cons_zero, List.set_cons_succ]
                              refine wpAnyH_store_set_new 7 (by kernel_rfl) rfl rfl 106 _ _ rfl (w9.heap.size) (fun v => r2 u v && O v) rfl rfl 106 (fun _ => false) (SetAt.new w9 106 _) Try.setSize (key _ (below_setCells _ hb9.size _ _ _ (((Below.refl _ _).drew.trans hb9).alloc hb9.size _))) (fun hHeld => ?_)
                              try simp only [Act.put, List.getElem_toArray, List.getElem_cons_zero, List.getElem_cons_succ, List.setIfInBounds_toArray, List.set_cons_zero, List.set_cons_succ]
                              refine wpAnyH_done (by kernel_rfl) ?_ _
                              go_wp2_with fail
                              go_meet
                              case rel => exact ⟨_, rfl, hb9.size, setIn_stored (SetAt.new w9 106 _) _, hHeld.1⟩
                            refine AllReadyH.cons rfl (fun K hK => ?_) ?_
                            · refine wanted_step rfl ?_
                              refine wp_alloc_set 106 rfl Try.setZero ?_
                              refine hK.out _ _ (key _ ((Below.refl _ _).drew.alloc (Nat.le_refl _) _)) (fun hHeld => ?_)
                              clear hK K
                              try simp only [Act.put, List.getElem_toArray, List.getElem_cons_zero, List.getElem_cons_succ, List.setIfInBounds_toArray, List.set_cons_zero, List.set_cons_succ]
                              refine wpAnyH_ready (rs := [5]) (by kernel_rfl) (by simp) ?_
                              refine AllReadyH.cons rfl (fun K hK => ?_) ?_
                              · go_simp
                                go_at_call 54
                                refine (meet_any _ (r2 u) O).mono ?_
                                rintro e w9 ⟨rfl, hb9⟩
                                go_wp2_with fail
                                refine hK.out _ _ (key _ (((Below.refl _ _).drew.alloc (Nat.le_refl _) _).trans (hb9.mono (by simp)))) (fun hHeld => ?_)
                                clear hK K
                                try simp only [Act.put, List.getElem_toArray, List.getElem_cons_zero, List.getElem_cons_succ, List.setIfInBounds_toArray, List.set_cons_zero, List.set_cons_succ]
                                refine wpAnyH_store_set_new 7 (by kernel_rfl) rfl rfl 106 _ _ rfl (wt.heap.size) (fun v => r2 u v && O v) rfl rfl 106 (fun _ => false) ((SetAt.new wt.drew 106 _).below hb9 (by simp)) Try.setSize (key _ (below_setCells _ (Nat.le_refl _) _ _ _ (((Below.refl _ _).drew.alloc (Nat.le_refl _) _).trans (hb9.mono (by simp))))) (fun hHeld => ?_)
                                try simp only [Act.put, List.getElem_toArray, List.getElem_cons_zero, List.getElem_cons_succ, List.setIfInBounds_toArray, List.set_cons_zero, List.set_cons_succ]
                                refine wpAnyH_done (by kernel_rfl) ?_ _
                                go_wp2_with fail
                                go_meet
                                case rel => exact ⟨_, rfl, Nat.le_refl _, setIn_stored ((SetAt.new wt.drew 106 _).below hb9 (by simp)) _, hHeld.1⟩
                              exact AllReadyH.nil
                            exact AllReadyH.nil
                          case rest =>
                            obtain ⟨N, rfl, hN, hSN, hbc⟩ := hcut
                            have HSN := Lib.hid hSN
                            have HBc := Lib.hid hbc
                            have hzc := hbc.size
                            have hNl := hSN.lt
                            clear hSN hbc
                            have HR9 := Lib.hid (HR8.out.below HBc.out hgl)
                            obtain ⟨wd, hwd⟩ : ∃ wd : World, wd = wc := ⟨_, rfl⟩
                            subst hwd
                            go_upto_region 29 with fail
                            go_cut [92] from 87 to 91 (fun v wc => v = .bool (!eqSet (fun v => r2 u v && O v) (r2 u)) ∧ Below wd.heap.size wd wc)
                            case first =>
                              refine wp_region_held_drew (S := fun w' => Below wd.heap.size wd w' ∧ SetIn w' (w.heap.size + 1) (u * 201) (r2 u) ∧ SetIn w' N 0 (fun v => r2 u v && O v)) (by kernel_rfl) ⟨(Below.refl _ _).drew, HR9.out.get u hun, HSN.out⟩ (fun hHeld => ?_)
                              refine wpAnyH_take (i := 0) rfl (by kernel_rfl) (by kernel_rfl) (by kernel_rfl) (fun _ _ _ h => h) (yieldsIf_load_set (by rfl) 106 _ rfl (N) (0) rfl ((fun v => r2 u v && O v)) (fun _ h => h.2.2) _ Try.setUnder Try.setSize) (by assumption) ?_
                              try simp only [Act.put, List.getElem_toArray, List.getElem_cons_zero, List.getElem_cons_succ, List.setIfInBounds_toArray, List.set_cons_zero, List.set_cons_succ]
                              refine wpAnyH_take (i := 1) (v := ?_) rfl (by kernel_rfl) (by kernel_rfl) (by kernel_rfl) (fun _ _ _ h => h) (Or.inl ⟨by rfl, ?_⟩) (by assumption) ?_
                              rotate_left
                              · (intro w hSw; (try dsimp only at hSw); go_simp; (try with_reducible rfl))
                              try simp only [Act.put, List.getElem_toArray, List.getElem_cons_zero, List.getElem_cons_succ, List.setIfInBounds_toArray, List.set_cons_zero, List.set_cons_succ]
                              refine wpAnyH_take (i := 2) (v := ?_) rfl (by kernel_rfl) (by kernel_rfl) (by kernel_rfl) (fun _ _ _ h => h) (Or.inl ⟨by rfl, ?_⟩) (by assumption) ?_
                              rotate_left
                              · (intro w hSw; (try dsimp only at hSw); go_simp; (try with_reducible rfl))
                              try simp only [Act.put, List.getElem_toArray, List.getElem_cons_zero, List.getElem_cons_succ, List.setIfInBounds_toArray, List.set_cons_zero, List.set_cons_succ]
                              refine wpAnyH_take (i := 3) (v := ?_) rfl (by kernel_rfl) (by kernel_rfl) (by kernel_rfl) (fun _ _ _ h => h) (Or.inl ⟨by rfl, ?_⟩) (by assumption) ?_
                              rotate_left
                              · (intro w hSw; (try dsimp only at hSw); go_simp; (try with_reducible rfl))
                              try simp only [Act.put, List.getElem_toArray, List.getElem_cons_zero, List.getElem_cons_succ, List.setIfInBounds_toArray, List.set_cons_zero, List.set_cons_succ]
                              refine wpAnyH_take (i := 4) rfl (by kernel_rfl) (by kernel_rfl) (by kernel_rfl) (fun _ _ _ h => h) (yieldsIf_load_set (by rfl) 106 _ rfl (w.heap.size + 1) (u * 201) rfl (r2 u) (fun _ h => h.2.1) _ Try.setUnder Try.setSize) (by assumption) ?_
                              try simp only [Act.put, List.getElem_toArray, List.getElem_cons_zero, List.getElem_cons_succ, List.setIfInBounds_toArray, List.set_cons_zero, List.set_cons_succ]
                              refine wpAnyH_take (i := 5) rfl (by kernel_rfl) (by kernel_rfl) (by kernel_rfl) (fun _ _ _ h => h) (yieldsIf_neq_sets (by rfl) 106 4 _ _ _ rfl (fun v => r2 u v && O v) (r2 u) rfl rfl (by kernel_rfl) Try.setUnder (by kernel_rfl) Try.boolSize) (by assumption) ?_
                              try simp only [Act.put, List.getElem_toArray, List.getElem_cons_zero, List.getElem_cons_succ, List.setIfInBounds_toArray, List.set_cons_zero, List.set_cons_succ]
                              refine wpAnyH_done (by kernel_rfl) ?_ _
                              go_wp2_with fail
                              go_meet
                              case rel => exact ⟨rfl, hHeld.1⟩
                            case rest =>
                              obtain ⟨rfl, hbe⟩ := hcut
                              have HRe := Lib.hid (HR9.out.below hbe (by omega))
                              have HSe := Lib.hid (HSN.out.below hbe hNl)
                              have HBe := Lib.hid (HBc.out.trans (hbe.mono hzc))
                              clear hbe
                              have HGe := Lib.hid (grownBy_below HG8.out HBe.out hsz8)
                              have HBBe := Lib.hid (HB8.out.trans (HBe.out.mono (by omega)))
                              cases he : eqSet (fun v => r2 u v && O v) (r2 u)
                              · have HEq := Lib.hid he
                                clear he
                                go_wp2_with (first
                                  | (with_reducible refine wpList_load_set_mid rfl 106 _ rfl N 0 (fun v => r2 u v && O v) rfl HSe.out _ Try.setUnder Try.setSize ?_)
                                  | (with_reducible refine wpList_store_set_mid rfl 106 _ _ rfl (w.heap.size + 1) (u * 201) (fun v => r2 u v && O v) rfl rfl (HRe.out.thereAt hun) Try.setSize ?_))
                                go_roundw
                                case rel =>
                                      refine ⟨j + 1, true, updR r2 u (fun v => r2 u v && O v), by omega, rfl, by go_num, HRe.out.put hun _, grownBy_setCells HGe.out _ _, below_setCells _ (Nat.le_refl _) _ _ _ HBBe.out, Lib.hid (HTI2.out.change HOK.out hlt (by rw [← Hu.out]; exact List.getElem_mem hjl) (by omega) hun _ HEq.out)⟩
                                case measure => simp [intOf]; omega
                              · have HEq := Lib.hid he
                                clear he
                                go_wp2_with fail
                                go_roundw
                                case rel =>
                                      refine ⟨j + 1, mb2, r2, by omega, rfl, by go_num, HRe.out, HGe.out, HBBe.out, Lib.hid (by have := HTI2.out.same HEq.out; rw [take_snoc_eq _ j hjl, Hu.out]; exact this)⟩
                                case measure => simp [intOf]; omega
                        · have hjl3 : j = (toL f.blocks[k].term).length := by omega
                          subst hjl3
                          have HW2 : Hid (VInv f r2 ∧ (if mb2 then truR f.blocks.length r2 + 1 ≤ truR f.blocks.length r else r2 = r ∧ ∀ b, b < k + 1 → StableAt f r b)) := Lib.hid (TInv.done hlt (by have := HTI2.out; rwa [List.take_length] at this))
                          go_wp2_with fail
                          go_roundw
                          case rel => exact ⟨k + 1, mb2, r2, by omega, rfl, by go_num, HR8.out, HB8.out, HW2⟩
                          case measure => simp [intOf]; omega
                · have hkn : k = f.blocks.length := by omega
                  subst hkn
                  go_wp2_with fail
                  go_roundg (if mb then truR f.blocks.length r' + 2 else 1)
                  case rel =>
                    refine ⟨mb, r', rfl, HR6.out, HB6.out, Lib.hid ⟨HW.out.1, ?_⟩⟩
                    have h3 := HW.out.2
                    cases mb
                    · simp only [Bool.false_eq_true, if_false] at h3 ⊢
                      refine ⟨Nat.le_refl _, fun b hb => ?_⟩
                      rw [h3.1]; exact h3.2 b hb
                    · simp
                  case measure =>
                    have h3 := HW.out.2
                    cases mb
                    · simp only [Bool.false_eq_true, if_false]; omega
                    · simp only [if_true] at h3 ⊢; omega
end Go.Proofs.Ytnbmmfkkjceehaa
