/- Contract: (*Run).Step. -/
import Derived.Test.YtnbmmfkkjceehaaR13
import Derived.WalkSpells
namespace Go.Proofs.Ytnbmmfkkjceehaa
set_option linter.unusedSimpArgs false
set_option linter.unusedVariables false
open Go.RowKit

def dBlk : BlkD := ⟨[], ⟨0, 0, 0, 0⟩⟩
def dIns : InsD := ⟨0, 0, 0, 0, 0, 0, [], 0⟩
def goesTo (s : RunD) : NextD → RunD
  | .spot b i => { s with block := b.toNat, ins := i.toNat }
  | .done e v => { s with fin := e, value := v }
def nextR (f : FnD) (s : RunD) : RunD × NextD :=
  if s.ins < (f.blocks.getD s.block dBlk).ins.length then insR s ((f.blocks.getD s.block dBlk).ins.getD s.ins dIns) else (s, termD s.vars (f.blocks.getD s.block dBlk).term)
def stepR (f : FnD) (s : RunD) : RunD × Bool :=
  if s.fin = 0 then (goesTo (nextR f { s with steps := s.steps + 1 }).1 (nextR f { s with steps := s.steps + 1 }).2, true) else (s, false)
theorem insR_same (s : RunD) (i : InsD) : (insR s i).1.ins = s.ins ∧ (insR s i).1.block = s.block ∧ (insR s i).1.fin = s.fin ∧ (insR s i).1.value = s.value ∧ (insR s i).1.steps = s.steps := by
  obtain ⟨h1, h2, h3, h4, h5, _⟩ := insV0_same s i
  unfold insR
  repeat' split
  all_goals exact ⟨h1, h2, h3, h4, h5⟩
def RetStep (base p m n : Nat) (h : RunH) (f : FnD) (r : RunD × Bool) (w : World) (e : Ending) (w' : World) : Prop := e = .returned (.bool r.2) ∧ ∃ h' n', RunAt w' base p m n' h' f r.1 ∧ Turn w w' p m h h' ∧ n' ≤ n + 1
/-- Where an end goes there is a block. -/
def Ends (f : FnD) : Prop := ∀ x ∈ f.blocks, ∀ s b i, termD s x.term = .spot b i → 0 ≤ b ∧ b < f.blocks.length
theorem nextR_spot {f : FnD} {s : RunD} (hE : Ends f) (hb : s.block < f.blocks.length) : ∀ b i, (nextR f s).2 = .spot b i → 0 ≤ b ∧ b < f.blocks.length ∧ 0 ≤ i := by
  intro b i h
  have hx : f.blocks.getD s.block dBlk = f.blocks[s.block] := by simp [List.getD, hb]
  unfold nextR at h
  rw [hx] at h
  split at h
  · obtain ⟨h1, h2, _⟩ := insV0_same s (f.blocks[s.block].ins.getD s.ins dIns)
    unfold insR at h
    split at h
    · simp only [NextD.spot.injEq] at h
      obtain ⟨rfl, rfl⟩ := h
      rw [h1, h2]
      omega
    · cases h
  · have := hE _ (List.getElem_mem hb) _ _ _ h
    refine ⟨this.1, this.2, ?_⟩
    unfold termD at h
    repeat' split at h
    all_goals first | (cases h; done) | (simp only [NextD.spot.injEq] at h; omega)
theorem Try.ta1 (v : Value) (W : World) : (Instr.typeAssert (.iface 75 v) 20 75 true).run Try.prog W = .ok (.tuple #[v, .bool true]) W := by kernel_rfl
theorem Try.ta2 (v : Value) (W : World) : (Instr.typeAssert (.iface 77 v) 20 75 true).run Try.prog W = .ok (.tuple #[.agg #[.int .i64 0, .int .i64 0], .bool false]) W := by kernel_rfl
theorem Try.ta3 (v : Value) (W : World) : (Instr.typeAssert (.iface 77 v) 20 77 false).run Try.prog W = .ok v W := by kernel_rfl
set_option maxRecDepth 100000 in
set_option maxHeartbeats 4000000 in
theorem step_any (w : World) (base p m n : Nat) (h : RunH) (f : FnD) (s : RunD) (hr : RunAt w base p m n h f s) (hbase : base ≤ w.heap.size) (hfw : FnW f) (hsm : Small f) (hE : Ends f) (hs : RunW s) (hn : n ≤ 1000000) (hin : s.ins ≤ 1000000) (hst : s.steps ≤ 1000000) (hb : s.block < f.blocks.length) :
    Calls Try.prog 17 #[.pointer (some ⟨p, 0, none⟩)] w (RetStep base p m n h f (stepR f s) w) := by
  have qm : ∀ W : World, (binOp .eql 71 (.map (some m)) (.map none)).run Try.prog W = .ok (.bool false) W := fun W => run_eql_map_nil W _ _ _ (some m) Try.mapVars
  have ta1 := Try.ta1
  have ta2 := Try.ta2
  have ta3 := Try.ta3
  have c0 := hr.c0
  have c3 := hr.c3
  have c10 := hr.c10
  have z10 := hr.free 10
  have HR := Lib.hid hr
  have HFW := Lib.hid hfw
  have HSM := Lib.hid hsm
  have HE := Lib.hid hE
  have HS := Lib.hid hs
  clear hr hfw hsm hE hs
  go_enter Try.func17, Try.ntmps17
  by_cases h0 : s.fin = 0
  · have h0b : (s.fin != 0) = false := by simpa using h0
    have hF : Hid (stepR f s = (goesTo (nextR f { s with steps := s.steps + 1 }).1 (nextR f { s with steps := s.steps + 1 }).2, true)) := Lib.hid (by unfold stepR; rw [if_pos h0])
    clear h0
    go_upto_region 4 with fail
    have hp := HR.out.put (h' := h) (s' := { s with steps := s.steps + 1 }) 10 (.int .i64 ((s.steps : Int) + 1)) rfl rfl rfl rfl ⟨rfl, rfl, rfl, rfl, rfl, rfl, rfl, rfl⟩ HR.out.ans
    obtain ⟨w1, hw1⟩ : ∃ w1 : World, w1 = w.setCell ⟨p, 10, none⟩ (.int .i64 ((s.steps : Int) + 1)) := ⟨_, rfl⟩
    rw [← hw1] at hp ⊢
    have HR1 := Lib.hid hp.1
    have HT1 := Lib.hid hp.2
    clear hp hw1 c0 c3 c10 z10
    have d1 := HR1.out.c1
    have d6 := HR1.out.c6
    simp only at d1
    have hpl := lt_of_block HR1.out.cell
    obtain ⟨bb, ob, A1, cA1, hB, hbl, hbQ, hat, hiQ⟩ := HR1.out.blocks.get s.block _ (List.getElem?_eq_getElem hb)
    rw [hB] at d6
    have hxm := List.getElem_mem hb
    have HXm := Lib.hid hxm
    have HX : Hid (f.blocks.getD s.block dBlk = f.blocks[s.block]) := Lib.hid (by simp [List.getD, hb])
    have g0 := hat.c0
    have g1 := hat.c1
    have g2 := hat.c2
    have g3 := hat.c3
    have g4 := hat.c4
    have HIQ := Lib.hid hiQ
    have hbs := HSM.out.blocks
    have hi64 := HSM.out.ins _ hxm
    clear hat hiQ hbQ hB hxm
    obtain ⟨x, hx⟩ : ∃ x, f.blocks[s.block] = x := ⟨_, rfl⟩
    rw [hx] at HX HIQ g0 g1 g2 g3 g4 hi64 HXm
    clear hx
    refine wp_region_gated (fun w' => w'.cell? ⟨p, 1, none⟩ = some (.int .i64 s.block) ∧ w'.cell? ⟨p, 6, none⟩ = some (.slice (some ⟨bb, ob, none⟩) f.blocks.length h.d) ∧ w'.cell? ⟨bb, ob + s.block * 5, none⟩ = some (.slice A1 x.ins.length cA1) ∧ w'.cell? ⟨bb, ob + s.block * 5 + 1, none⟩ = some (.int .i64 x.term.kind) ∧ w'.cell? ⟨bb, ob + s.block * 5 + 2, none⟩ = some (.int .i64 x.term.a) ∧ w'.cell? ⟨bb, ob + s.block * 5 + 3, none⟩ = some (.int .i64 x.term.t0) ∧ w'.cell? ⟨bb, ob + s.block * 5 + 4, none⟩ = some (.int .i64 x.term.t1)) 13 (by kernel_rfl) ⟨d1, d6, g0, g1, g2, g3, g4⟩ (fun hHeld => ?_)
    refine wpAnyG_take 0 (v := ?_) rfl (by kernel_rfl) (by kernel_rfl) (by kernel_rfl) (by kernel_rfl) (by kernel_rfl) (by kernel_rfl) (fun _ _ _ h => h) (Or.inl ⟨by rfl, ?_⟩) (by assumption) ?_
    rotate_left
    · (intro w hSw; (try dsimp only at hSw); go_simp; (try with_reducible rfl))
    try simp only [Act.put, List.getElem_toArray, List.getElem_cons_zero, List.getElem_cons_succ, List.setIfInBounds_toArray, List.set_cons_zero, List.set_cons_succ]
    refine wpAnyG_take 1 (v := ?_) rfl (by kernel_rfl) (by kernel_rfl) (by kernel_rfl) (by kernel_rfl) (by kernel_rfl) (by kernel_rfl) (fun _ _ _ h => h) (Or.inl ⟨by rfl, ?_⟩) (by assumption) ?_
    rotate_left
    · (intro w hSw; (try dsimp only at hSw); go_simp; (try with_reducible rfl))
    try simp only [Act.put, List.getElem_toArray, List.getElem_cons_zero, List.getElem_cons_succ, List.setIfInBounds_toArray, List.set_cons_zero, List.set_cons_succ]
    refine wpAnyG_take 2 (v := ?_) rfl (by kernel_rfl) (by kernel_rfl) (by kernel_rfl) (by kernel_rfl) (by kernel_rfl) (by kernel_rfl) (fun _ _ _ h => h) (Or.inl ⟨by rfl, ?_⟩) (by assumption) ?_
    rotate_left
    · (intro w hSw; (try dsimp only at hSw); go_simp; (try with_reducible rfl))
    try simp only [Act.put, List.getElem_toArray, List.getElem_cons_zero, List.getElem_cons_succ, List.setIfInBounds_toArray, List.set_cons_zero, List.set_cons_succ]
    refine wpAnyG_take 3 (v := ?_) rfl (by kernel_rfl) (by kernel_rfl) (by kernel_rfl) (by kernel_rfl) (by kernel_rfl) (by kernel_rfl) (fun _ _ _ h => h) (Or.inl ⟨by rfl, ?_⟩) (by assumption) ?_
    rotate_left
    · (intro w hSw; (try dsimp only at hSw); go_simp; (try with_reducible rfl))
    try simp only [Act.put, List.getElem_toArray, List.getElem_cons_zero, List.getElem_cons_succ, List.setIfInBounds_toArray, List.set_cons_zero, List.set_cons_succ]
    refine wpAnyG_take 4 (v := ?_) rfl (by kernel_rfl) (by kernel_rfl) (by kernel_rfl) (by kernel_rfl) (by kernel_rfl) (by kernel_rfl) (fun _ _ _ h => h) (Or.inl ⟨by rfl, ?_⟩) (by assumption) ?_
    rotate_left
    · (intro w hSw; (try dsimp only at hSw); go_simp; (try with_reducible rfl))
    try simp only [Act.put, List.getElem_toArray, List.getElem_cons_zero, List.getElem_cons_succ, List.setIfInBounds_toArray, List.set_cons_zero, List.set_cons_succ]
    refine wpAnyG_take 5 (v := ?_) rfl (by kernel_rfl) (by kernel_rfl) (by kernel_rfl) (by kernel_rfl) (by kernel_rfl) (by kernel_rfl) (fun _ _ _ h => h) (Or.inl ⟨by rfl, ?_⟩) (by assumption) ?_
    rotate_left
    · (intro w hSw; (try dsimp only at hSw); go_simp; (try with_reducible rfl))
    try simp only [Act.put, List.getElem_toArray, List.getElem_cons_zero, List.getElem_cons_succ, List.setIfInBounds_toArray, List.set_cons_zero, List.set_cons_succ]
    refine wpAnyG_take 6 (v := ?_) rfl (by kernel_rfl) (by kernel_rfl) (by kernel_rfl) (by kernel_rfl) (by kernel_rfl) (by kernel_rfl) (fun _ _ _ h => h) (Or.inl ⟨by rfl, ?_⟩) (by assumption) ?_
    rotate_left
    · (intro w hSw; (try dsimp only at hSw); go_simp; (try with_reducible rfl))
    try simp only [Act.put, List.getElem_toArray, List.getElem_cons_zero, List.getElem_cons_succ, List.setIfInBounds_toArray, List.set_cons_zero, List.set_cons_succ]
    refine wpAnyG_take 7 (v := ?_) rfl (by kernel_rfl) (by kernel_rfl) (by kernel_rfl) (by kernel_rfl) (by kernel_rfl) (by kernel_rfl) (fun _ _ _ h => h) (Or.inl ⟨by rfl, ?_⟩) (by assumption) ?_
    rotate_left
    · (intro w hSw; (try dsimp only at hSw); go_simp; (try with_reducible rfl))
    try simp only [Act.put, List.getElem_toArray, List.getElem_cons_zero, List.getElem_cons_succ, List.setIfInBounds_toArray, List.set_cons_zero, List.set_cons_succ]
    refine wpAnyG_take 8 (v := ?_) rfl (by kernel_rfl) (by kernel_rfl) (by kernel_rfl) (by kernel_rfl) (by kernel_rfl) (by kernel_rfl) (fun _ _ _ h => h) (Or.inl ⟨by rfl, ?_⟩) (by assumption) ?_
    rotate_left
    · (intro w hSw; (try dsimp only at hSw); go_simp; (try with_reducible rfl))
    try simp only [Act.put, List.getElem_toArray, List.getElem_cons_zero, List.getElem_cons_succ, List.setIfInBounds_toArray, List.set_cons_zero, List.set_cons_succ]
    refine wpAnyG_take 9 (v := ?_) rfl (by kernel_rfl) (by kernel_rfl) (by kernel_rfl) (by kernel_rfl) (by kernel_rfl) (by kernel_rfl) (fun _ _ _ h => h) (Or.inl ⟨by rfl, ?_⟩) (by assumption) ?_
    rotate_left
    · (intro w hSw; (try dsimp only at hSw); go_simp; (try with_reducible rfl))
    try simp only [Act.put, List.getElem_toArray, List.getElem_cons_zero, List.getElem_cons_succ, List.setIfInBounds_toArray, List.set_cons_zero, List.set_cons_succ]
    refine wpAnyG_take 10 (v := ?_) rfl (by kernel_rfl) (by kernel_rfl) (by kernel_rfl) (by kernel_rfl) (by kernel_rfl) (by kernel_rfl) (fun _ _ _ h => h) (Or.inl ⟨by rfl, ?_⟩) (by assumption) ?_
    rotate_left
    · (intro w hSw; (try dsimp only at hSw); go_simp; (try with_reducible rfl))
    try simp only [Act.put, List.getElem_toArray, List.getElem_cons_zero, List.getElem_cons_succ, List.setIfInBounds_toArray, List.set_cons_zero, List.set_cons_succ]
    refine wpAnyG_take 11 (v := ?_) rfl (by kernel_rfl) (by kernel_rfl) (by kernel_rfl) (by kernel_rfl) (by kernel_rfl) (by kernel_rfl) (fun _ _ _ h => h) (Or.inl ⟨by rfl, ?_⟩) (by assumption) ?_
    rotate_left
    · (intro w hSw; (try dsimp only at hSw); go_simp; (try with_reducible rfl))
    try simp only [Act.put, List.getElem_toArray, List.getElem_cons_zero, List.getElem_cons_succ, List.setIfInBounds_toArray, List.set_cons_zero, List.set_cons_succ]
    refine wpAnyG_one 12 (by kernel_rfl) rfl (fun K hK => ?_)
    have hb2 : Below w1.heap.size w1 (w1.alloc (.cells #[.slice none 0 0, .int .i64 0, .int .i64 0, .int .i64 0, .int .i64 0] 55)) := (Below.refl _ _).alloc (Nat.le_refl _) _
    have kc := fun (b o : Nat) (hlt : b < w1.heap.size) => hb2.cell (p := ⟨b, o, none⟩) hlt
    go_simp
    refine hK.out _ _ (⟨(kc _ _ hpl).trans d1, (kc _ _ hpl).trans d6, (kc _ _ hbl).trans g0, (kc _ _ hbl).trans g1, (kc _ _ hbl).trans g2, (kc _ _ hbl).trans g3, (kc _ _ hbl).trans g4⟩) (fun hHeld => ?_)
    clear hK K
    try simp only [Act.put, List.getElem_toArray, List.getElem_cons_zero, List.getElem_cons_succ, List.setIfInBounds_toArray, List.set_cons_zero, List.set_cons_succ]
    clear kc hb2
    refine wpAnyG_past 13 (by kernel_rfl) rfl (by kernel_rfl) (fun K hK => ?_)
    go_simp
    refine hK.out _ _ ?_
    clear hK K
    try simp only [Act.put, List.getElem_toArray, List.getElem_cons_zero, List.getElem_cons_succ, List.setIfInBounds_toArray, List.set_cons_zero, List.set_cons_succ]
    refine wpAnyG_done (by kernel_rfl) ?_ _
    go_wp2_with fail
    obtain ⟨W3, hW3⟩ : ∃ W3 : World, W3 = (w1.alloc (.cells #[.slice A1 x.ins.length cA1, .int .i64 x.term.kind, .int .i64 x.term.a, .int .i64 x.term.t0, .int .i64 x.term.t1] 55)).drew := ⟨_, rfl⟩
    have hb3 : Below w1.heap.size w1 W3 := by rw [hW3]; exact ((Below.refl _ _).alloc (Nat.le_refl _) _).drew
    have HR3 := Lib.hid (HR1.out.below hb3)
    have HT3 : Hid (Turn w W3 p m h h) := Lib.hid (HT1.out.trans (.below hb3))
    have HIQ3 := Lib.hid (HIQ.out.keep (.below hb3))
    have hz3 : w1.heap.size < W3.heap.size := by rw [hW3]; show w1.heap.size < (w1.alloc _).heap.size; simp
    have k0 : W3.cell? ⟨w1.heap.size, 0, none⟩ = some (.slice A1 x.ins.length cA1) := by rw [hW3]; simp [go_sem]
    have k1 : W3.cell? ⟨w1.heap.size, 1, none⟩ = some (.int .i64 x.term.kind) := by rw [hW3]; simp [go_sem]
    have k2 : W3.cell? ⟨w1.heap.size, 2, none⟩ = some (.int .i64 x.term.a) := by rw [hW3]; simp [go_sem]
    have k3 : W3.cell? ⟨w1.heap.size, 3, none⟩ = some (.int .i64 x.term.t0) := by rw [hW3]; simp [go_sem]
    have k4 : W3.cell? ⟨w1.heap.size, 4, none⟩ = some (.int .i64 x.term.t1) := by rw [hW3]; simp [go_sem]
    have hnf : ¬ Foot p m h w1.heap.size := fun hf => by have := (HR1.out.lt _ hf).1; omega
    rw [← hW3]
    clear hW3 d1 d6 g0 g1 g2 g3 g4 hb3
    have d2 := HR3.out.c2
    simp only at d2
    obtain ⟨s1, hs1⟩ : ∃ s1, s1 = ({ s with steps := s.steps + 1 } : RunD) := ⟨_, rfl⟩
    have HN : Hid (nextR f s1 = if s.ins < x.ins.length then insR s1 (x.ins.getD s.ins dIns) else (s1, termD s.vars x.term)) := Lib.hid (by unfold nextR; rw [hs1]; simp only; rw [HX.out])
    have HS1 : Hid (RunW s1) := Lib.hid (by rw [hs1]; exact ⟨HS.out.mem, HS.out.answers, HS.out.mlen, HS.out.calls⟩)
    have hin1 : s1.ins ≤ 1000000 := by rw [hs1]; exact hin
    have hva : s1.vars = s.vars := by rw [hs1]
    have HVA := Lib.hid hva
    rw [← hs1] at HR3 hF
    have Hs1 := Lib.hid hs1
    clear hs1 hva
    have hbase3 : base ≤ W3.heap.size := by have := HT3.out.size; omega
    go_upto_if 51 with (go_quiet (fail))
    go_cut [4] from 51 to 66 (fun v wc => ∃ h' n', v = (nextR f s1).2.v ∧ RunAt wc base p m n' h' f (nextR f s1).1 ∧ Turn w wc p m h h' ∧ n' ≤ n + 1)
    case first =>
      by_cases hlt : s.ins < x.ins.length
      · have hR : Hid (nextR f s1 = insR s1 x.ins[s.ins]) := Lib.hid (by rw [HN.out, if_pos hlt]; simp [List.getD, hlt])
        obtain ⟨ib, io, A2, cA2, hA1, hil, hiQ, hiat, hiaQ⟩ := HIQ3.out.get s.ins _ (List.getElem?_eq_getElem hlt)
        rw [hA1] at k0
        have him := List.getElem_mem hlt
        have hi8 := HSM.out.args _ HXm.out _ him
        have hiw := (HFW.out.blocks _ HXm.out).ins _ him
        obtain ⟨y, hy⟩ : ∃ y, x.ins[s.ins] = y := ⟨_, rfl⟩
        rw [hy] at hR hiat hiaQ hi8 hiw
        have HIW := Lib.hid hiw
        have HIA := Lib.hid hiat.args
        have g0 := hiat.c0
        have g1 := hiat.c1
        have g2 := hiat.c2
        have g3 := hiat.c3
        have g4 := hiat.c4
        have g5 := hiat.c5
        have g6 := hiat.c6
        have g7 := hiat.c7
        clear hiat hiaQ hA1 him hiw hy k1 k2 k3 k4
        go_wp2_with fail
        refine wp_region_gated (fun w' => w'.cell? ⟨p, 2, none⟩ = some (.int .i64 s.ins) ∧ w'.cell? ⟨w1.heap.size, 0, none⟩ = some (.slice (some ⟨ib, io, none⟩) x.ins.length cA1) ∧ w'.cell? ⟨ib, io + s.ins * 8, none⟩ = some (.int .i64 y.op) ∧ w'.cell? ⟨ib, io + s.ins * 8 + 1, none⟩ = some (.int .i64 y.dst) ∧ w'.cell? ⟨ib, io + s.ins * 8 + 2, none⟩ = some (.int .i64 y.a) ∧ w'.cell? ⟨ib, io + s.ins * 8 + 3, none⟩ = some (.int .i64 y.b) ∧ w'.cell? ⟨ib, io + s.ins * 8 + 4, none⟩ = some (.int .i64 y.imm) ∧ w'.cell? ⟨ib, io + s.ins * 8 + 5, none⟩ = some (.int .i64 y.callee) ∧ w'.cell? ⟨ib, io + s.ins * 8 + 6, none⟩ = some (.slice A2 y.args.length cA2) ∧ w'.cell? ⟨ib, io + s.ins * 8 + 7, none⟩ = some (.int .i64 y.many)) 11 (by kernel_rfl) ⟨d2, k0, g0, g1, g2, g3, g4, g5, g6, g7⟩ (fun hHeld => ?_)
        refine wpAnyG_take 0 (v := ?_) rfl (by kernel_rfl) (by kernel_rfl) (by kernel_rfl) (by kernel_rfl) (by kernel_rfl) (by kernel_rfl) (fun _ _ _ h => h) (Or.inl ⟨by rfl, ?_⟩) (by assumption) ?_
        rotate_left
        · (intro w hSw; (try dsimp only at hSw); go_simp; (try with_reducible rfl))
        try simp only [Act.put, List.getElem_toArray, List.getElem_cons_zero, List.getElem_cons_succ, List.setIfInBounds_toArray, List.set_cons_zero, List.set_cons_succ]
        refine wpAnyG_take 1 (v := ?_) rfl (by kernel_rfl) (by kernel_rfl) (by kernel_rfl) (by kernel_rfl) (by kernel_rfl) (by kernel_rfl) (fun _ _ _ h => h) (Or.inl ⟨by rfl, ?_⟩) (by assumption) ?_
        rotate_left
        · (intro w hSw; (try dsimp only at hSw); go_simp; (try with_reducible rfl))
        try simp only [Act.put, List.getElem_toArray, List.getElem_cons_zero, List.getElem_cons_succ, List.setIfInBounds_toArray, List.set_cons_zero, List.set_cons_succ]
        refine wpAnyG_take 2 (v := ?_) rfl (by kernel_rfl) (by kernel_rfl) (by kernel_rfl) (by kernel_rfl) (by kernel_rfl) (by kernel_rfl) (fun _ _ _ h => h) (Or.inl ⟨by rfl, ?_⟩) (by assumption) ?_
        rotate_left
        · (intro w hSw; (try dsimp only at hSw); go_simp; (try with_reducible rfl))
        try simp only [Act.put, List.getElem_toArray, List.getElem_cons_zero, List.getElem_cons_succ, List.setIfInBounds_toArray, List.set_cons_zero, List.set_cons_succ]
        refine wpAnyG_take 3 (v := ?_) rfl (by kernel_rfl) (by kernel_rfl) (by kernel_rfl) (by kernel_rfl) (by kernel_rfl) (by kernel_rfl) (fun _ _ _ h => h) (Or.inl ⟨by rfl, ?_⟩) (by assumption) ?_
        rotate_left
        · (intro w hSw; (try dsimp only at hSw); go_simp; (try with_reducible rfl))
        try simp only [Act.put, List.getElem_toArray, List.getElem_cons_zero, List.getElem_cons_succ, List.setIfInBounds_toArray, List.set_cons_zero, List.set_cons_succ]
        refine wpAnyG_take 4 (v := ?_) rfl (by kernel_rfl) (by kernel_rfl) (by kernel_rfl) (by kernel_rfl) (by kernel_rfl) (by kernel_rfl) (fun _ _ _ h => h) (Or.inl ⟨by rfl, ?_⟩) (by assumption) ?_
        rotate_left
        · (intro w hSw; (try dsimp only at hSw); go_simp; (try with_reducible rfl))
        try simp only [Act.put, List.getElem_toArray, List.getElem_cons_zero, List.getElem_cons_succ, List.setIfInBounds_toArray, List.set_cons_zero, List.set_cons_succ]
        refine wpAnyG_take 5 (v := ?_) rfl (by kernel_rfl) (by kernel_rfl) (by kernel_rfl) (by kernel_rfl) (by kernel_rfl) (by kernel_rfl) (fun _ _ _ h => h) (Or.inl ⟨by rfl, ?_⟩) (by assumption) ?_
        rotate_left
        · (intro w hSw; (try dsimp only at hSw); go_simp; (try with_reducible rfl))
        try simp only [Act.put, List.getElem_toArray, List.getElem_cons_zero, List.getElem_cons_succ, List.setIfInBounds_toArray, List.set_cons_zero, List.set_cons_succ]
        refine wpAnyG_take 6 (v := ?_) rfl (by kernel_rfl) (by kernel_rfl) (by kernel_rfl) (by kernel_rfl) (by kernel_rfl) (by kernel_rfl) (fun _ _ _ h => h) (Or.inl ⟨by rfl, ?_⟩) (by assumption) ?_
        rotate_left
        · (intro w hSw; (try dsimp only at hSw); go_simp; (try with_reducible rfl))
        try simp only [Act.put, List.getElem_toArray, List.getElem_cons_zero, List.getElem_cons_succ, List.setIfInBounds_toArray, List.set_cons_zero, List.set_cons_succ]
        refine wpAnyG_take 7 (v := ?_) rfl (by kernel_rfl) (by kernel_rfl) (by kernel_rfl) (by kernel_rfl) (by kernel_rfl) (by kernel_rfl) (fun _ _ _ h => h) (Or.inl ⟨by rfl, ?_⟩) (by assumption) ?_
        rotate_left
        · (intro w hSw; (try dsimp only at hSw); go_simp; (try with_reducible rfl))
        try simp only [Act.put, List.getElem_toArray, List.getElem_cons_zero, List.getElem_cons_succ, List.setIfInBounds_toArray, List.set_cons_zero, List.set_cons_succ]
        refine wpAnyG_take 8 (v := ?_) rfl (by kernel_rfl) (by kernel_rfl) (by kernel_rfl) (by kernel_rfl) (by kernel_rfl) (by kernel_rfl) (fun _ _ _ h => h) (Or.inl ⟨by rfl, ?_⟩) (by assumption) ?_
        rotate_left
        · (intro w hSw; (try dsimp only at hSw); go_simp; (try with_reducible rfl))
        try simp only [Act.put, List.getElem_toArray, List.getElem_cons_zero, List.getElem_cons_succ, List.setIfInBounds_toArray, List.set_cons_zero, List.set_cons_succ]
        refine wpAnyG_take 9 (v := ?_) rfl (by kernel_rfl) (by kernel_rfl) (by kernel_rfl) (by kernel_rfl) (by kernel_rfl) (by kernel_rfl) (fun _ _ _ h => h) (Or.inl ⟨by rfl, ?_⟩) (by assumption) ?_
        rotate_left
        · (intro w hSw; (try dsimp only at hSw); go_simp; (try with_reducible rfl))
        try simp only [Act.put, List.getElem_toArray, List.getElem_cons_zero, List.getElem_cons_succ, List.setIfInBounds_toArray, List.set_cons_zero, List.set_cons_succ]
        refine wpAnyG_one 10 (by kernel_rfl) rfl (fun K hK => ?_)
        go_simp
        go_at_call 29
        refine (ins_any _ base p m n h f s1 A2 cA2 y (HR3.out.below (below_dn (Below.refl _ _) _)) hbase3 (HIA.out.below (below_dn (Below.refl _ _) _)) hi8 HIW.out HS1.out hn hin1).mono ?_
        rintro e w5 ⟨rfl, h', n', hr5, ht5, hn5⟩
        have HR5 := Lib.hid hr5
        have HT5 : Hid (Turn w w5 p m h h') := Lib.hid ((HT3.out.trans (.below (below_dn (Below.refl _ _) _))).trans ht5)
        have kk : ∀ b o, b < W3.heap.size → ¬ Foot p m h b → w5.cell? ⟨b, o, none⟩ = W3.cell? ⟨b, o, none⟩ := fun b o hlt hnF => World.cell?_of_block (a := ⟨b, o, none⟩) (ht5.keep b hlt hnF)
        have e2 : w5.cell? ⟨p, 2, none⟩ = some (.int .i64 s.ins) := by
          have := hr5.c2
          rw [(insR_same s1 y).1, Hs1.out] at this
          exact this
        have kS := And.intro e2 (And.intro ((kk _ _ hz3 hnf).trans k0) (And.intro ((kk _ _ hil hiQ).trans g0) (And.intro ((kk _ _ hil hiQ).trans g1) (And.intro ((kk _ _ hil hiQ).trans g2) (And.intro ((kk _ _ hil hiQ).trans g3) (And.intro ((kk _ _ hil hiQ).trans g4) (And.intro ((kk _ _ hil hiQ).trans g5) (And.intro ((kk _ _ hil hiQ).trans g6) ((kk _ _ hil hiQ).trans g7)))))))))
        have KS := Lib.hid kS
        clear kS kk hr5 ht5 e2
        go_wp2_with fail
        refine hK.out _ _ (KS.out) (fun hHeld => ?_)
        clear hK K
        try simp only [Act.put, List.getElem_toArray, List.getElem_cons_zero, List.getElem_cons_succ, List.setIfInBounds_toArray, List.set_cons_zero, List.set_cons_succ]
        refine wpAnyG_past 11 (by kernel_rfl) rfl (by kernel_rfl) (fun K hK => ?_)
        go_simp
        refine hK.out _ _ ?_
        clear hK K
        try simp only [Act.put, List.getElem_toArray, List.getElem_cons_zero, List.getElem_cons_succ, List.setIfInBounds_toArray, List.set_cons_zero, List.set_cons_succ]
        refine wpAnyG_done (by kernel_rfl) ?_ _
        go_wp2_with fail
        go_meet
        case rel => rw [hR.out]; exact ⟨h', n', rfl, HR5.out, HT5.out, hn5⟩
      · have hR : Hid (nextR f s1 = (s1, termD s.vars x.term)) := Lib.hid (by rw [HN.out, if_neg hlt])
        have hta := ((HFW.out.blocks _ HXm.out).term).a
        have HTa := Lib.hid (okI_of hta)
        clear hta
        go_wp2_with (go_at_call 30; refine (term_any _ base p m n h f s1 x.term (HR3.out.below (below_dn (Below.refl _ _) _)) HTa.out).mono ?_; rintro e w5 ⟨rfl, hb5⟩; have HB5 := Lib.hid hb5; clear hb5)
        go_meet
        case rel => rw [hR.out, ← HVA.out]; exact ⟨h, n, rfl, (HR3.out.below (below_dn (Below.refl _ _) _)).below HB5.out, (HT3.out.trans (.below (below_dn (Below.refl _ _) _))).trans (.below HB5.out), by omega⟩
    case rest =>
      obtain ⟨h', n', rfl, hr5, ht5, hn5⟩ := hcut
      have HR5 := Lib.hid hr5
      have HT5 := Lib.hid ht5
      have hfz := hr5.free
      have hpl5 := lt_of_block hr5.cell
      have q1 := hr5.c1
      have q2 := hr5.c2
      have q3 := hr5.c3
      have q4 := hr5.c4
      clear hr5 ht5 d2 k0 k1 k2 k3 k4
      have hsp := nextR_spot (s := s1) HE.out (by rw [Hs1.out]; exact hb)
      obtain ⟨r, hnx⟩ : ∃ r, nextR f s1 = r := ⟨_, rfl⟩
      rw [hnx] at HR5 q1 q2 q3 q4 hsp ⊢
      have hF2 : Hid (stepR f s = (goesTo r.1 r.2, true)) := Lib.hid (by rw [hF.out, hnx])
      clear hnx hF HN
      obtain ⟨sr, nx⟩ := r
      cases nx with
      | spot b i =>
        obtain ⟨hb0, _, hi0⟩ := hsp b i rfl
        obtain ⟨bn, rfl⟩ := Int.eq_ofNat_of_zero_le hb0
        obtain ⟨jn, rfl⟩ := Int.eq_ofNat_of_zero_le hi0
        have hF3 : Hid (stepR f s = ({ sr with block := bn, ins := jn }, true)) := Lib.hid (by rw [hF2.out]; rfl)
        clear hF2 hsp hb0 hi0
        simp only [NextD.v] at *
        have z1 := hfz 1
        have z2 := hfz 2
        clear hfz q3 q4
        go_wp2
        go_ret
        rw [hF3.out]
        have hp1 := HR5.out.put (h' := h') (s' := { sr with block := bn }) 1 (.int .i64 bn) rfl rfl rfl rfl ⟨rfl, rfl, rfl, rfl, rfl, rfl, rfl, rfl⟩ HR5.out.ans
        have hp2 := hp1.1.put (h' := h') (s' := { sr with block := bn, ins := jn }) 2 (.int .i64 jn) rfl rfl rfl rfl ⟨rfl, rfl, rfl, rfl, rfl, rfl, rfl, rfl⟩ hp1.1.ans
        exact ⟨rfl, h', n', hp2.1.below ((Below.refl _ _).alloc (Nat.le_refl _) _), (HT5.out.trans (hp1.2.trans hp2.2)).trans (.below ((Below.refl _ _).alloc (Nat.le_refl _) _)), hn5⟩
      | done e v =>
        have hF3 : Hid (stepR f s = ({ sr with fin := e, value := v }, true)) := Lib.hid (by rw [hF2.out]; rfl)
        clear hF2 hsp
        simp only [NextD.v] at *
        have z3 := hfz 3
        have z4 := hfz 4
        clear hfz q1 q2
        go_wp2
        go_ret
        rw [hF3.out]
        have hp1 := HR5.out.put (h' := h') (s' := { sr with fin := e }) 3 (.int .i64 e) rfl rfl rfl rfl ⟨rfl, rfl, rfl, rfl, rfl, rfl, rfl, rfl⟩ HR5.out.ans
        have hp2 := hp1.1.put (h' := h') (s' := { sr with fin := e, value := v }) 4 (.int .i64 v) rfl rfl rfl rfl ⟨rfl, rfl, rfl, rfl, rfl, rfl, rfl, rfl⟩ hp1.1.ans
        exact ⟨rfl, h', n', hp2.1.below ((Below.refl _ _).alloc (Nat.le_refl _) _), (HT5.out.trans (hp1.2.trans hp2.2)).trans (.below ((Below.refl _ _).alloc (Nat.le_refl _) _)), hn5⟩
  · have h0b : (s.fin != 0) = true := by simpa using h0
    have hF : Hid (stepR f s = (s, false)) := Lib.hid (by unfold stepR; rw [if_neg h0])
    clear h0
    go_wp2
    go_ret
    rw [hF.out]
    exact ⟨rfl, h, n, HR.out, .below (Below.refl _ _), by omega⟩
end Go.Proofs.Ytnbmmfkkjceehaa
