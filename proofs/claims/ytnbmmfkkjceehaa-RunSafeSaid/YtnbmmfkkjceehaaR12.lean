/- Contract: (*Run).call. -/
import Derived.Test.YtnbmmfkkjceehaaR11
namespace Go.Proofs.Ytnbmmfkkjceehaa
set_option linter.unusedSimpArgs false
set_option linter.unusedVariables false
open Go.RowKit

theorem wp_append_raw_at {P : Program} {o : Oper} {a : Act} {w : World} {K : Act → World → Prop} {Q : Exit → Act → World → Prop} (s x : Operand) (t : TypeId)
    (ho : o.op = .call { callee := .builtin .append, args := #[s, x], argTypes := #[t, t] })
    (base : Nat) (e : TypeId) (ht : P.underlying t = some (.slice e)) (z : Value) (sz by_ : Nat) (hi : (P.info? e).map (fun i => (i.zero, i.size, i.bytes)) = some (some z, sz, by_)) (hzs : z.cells.size = sz) (hsz : 0 < sz)
    (v : Value) (n : Nat) (xs : List Value) (hs : a.eval s = v) (hown : w.ownsRow base e sz v n xs)
    (b : Nat) (ys : List Value) (hys : ys.length = sz) (hx : a.eval x = .slice (some ⟨b, 0, none⟩) 1 1) (hc : ∀ j u, ys[j]? = some u → w.cell? ⟨b, j, none⟩ = some u) (h1 : ∀ u ∈ ys, u.oneCell' = true)
    (h63 : n + 1 ≤ maxLen) (hbytes : (n + 1) * by_ ≤ 140737488355328) (hbase : base ≤ w.heap.size)
    (h : ∀ v' w', w'.ownsRow base e sz v' (n + 1) (xs ++ ys) → w.grownBy w' v.ownBlock → (v'.ownBlock = v.ownBlock ∨ v'.ownBlock = some w.heap.size) → K (a.put o.dst v') w') : o.wp P a w K Q := by
  obtain ⟨i0, hi, hz0, hz1, hz2⟩ := info_parts hi
  obtain ⟨v', w', hrun, r1, r2, _, r3⟩ := run_append_own_at (P := P) w base t o.type e i0 z sz by_ ht hi hz0 hz1 hz2 hzs hsz v n xs hown ⟨b, 0, none⟩ 1 1 ys (by rw [hys]; omega) (by
    intro j u hj
    rw [Addr.add_lit]
    simpa using hc j u hj) h1 h63 hbytes hbase
  unfold Oper.wp execOp
  simp only [ho, resolve, invoke, builtin, Sem.run_bind, Sem.run_pure, Result.andThen_ok, List.map_toArray, List.map_cons, List.map_nil, hs, hx, hrun]
  exact h v' w' r1 r2 r3
def zCall : Value := .agg #[.int .i64 0, .slice none 0 0]
theorem Try.infoCall : (Try.prog.info? 68).map (fun i => (i.zero, i.size, i.bytes)) = some (some zCall, 2, 32) := by kernel_rfl
theorem wanted_go {P : Program} {o : Oper} {a : Act} {w : World} {K : Act → World → Prop} {Q : Exit → Act → World → Prop} {y : Nat → Option Bool} {R : Prop} (hg : o.guard = none) (h : o.wp P a w K Q) : if Region.wanted o y = true then o.wp P a w K Q else R := by
  have : Region.wanted o y = true := by simp [Region.wanted, hg]
  rw [if_pos this]; exact h
def callD (s : RunD) (i : InsD) : RunD := { s with calls := s.calls ++ [⟨i.callee, i.args.map (getV s.vars)⟩] }
/-- A call: the run behind it, its answer, whether there is one. -/
def callR (s : RunD) (i : InsD) : RunD × Int × Bool := match s.answers with
  | [] => (callD s i, 0, false)
  | a :: r => ({ callD s i with answers := r }, a, true)
def RetCallR (base p m n : Nat) (h : RunH) (f : FnD) (r : RunD × Int × Bool) (w : World) (e : Ending) (w' : World) : Prop := e = .returned (.tuple #[.int .i64 r.2.1, .bool r.2.2]) ∧ ∃ h', RunAt w' base p m n h' f r.1 ∧ Turn w w' p m h h'
set_option maxRecDepth 100000 in
set_option maxHeartbeats 4000000 in
theorem call_any (w : World) (base p m n : Nat) (h : RunH) (f : FnD) (s : RunD) (A : Option Addr) (c : Nat) (i : InsD) (hr : RunAt w base p m n h f s) (hbase : base ≤ w.heap.size) (ha : RI w A c i.args) (hx : ∀ x ∈ i.args, okI x) (h8 : i.args.length ≤ 8) (hcl : s.calls.length ≤ 1000000) :
    Calls Try.prog 40 #[.pointer (some ⟨p, 0, none⟩), insV A c i] w (RetCallR base p m n h f (callR s i) w) := by
  simp only [insV]
  obtain ⟨w0, hw0⟩ : ∃ w0 : World, w0 = w.alloc (.cells #[.int .i64 i.op, .int .i64 i.dst, .int .i64 i.a, .int .i64 i.b, .int .i64 i.imm, .int .i64 i.callee, .slice A i.args.length c, .int .i64 i.many] 59) := ⟨_, rfl⟩
  have hb0 : Below w.heap.size w w0 := by rw [hw0]; go_grown
  have HR0 := Lib.hid (hr.below hb0)
  have HT0 : Hid (Turn w w0 p m h h) := Lib.hid (.below hb0)
  have HA0 := Lib.hid (ha.below hb0)
  have HX := Lib.hid hx
  have HLF := Lib.hid (fun b hb => (hr.lt b hb).1)
  have hz0 : w.heap.size < w0.heap.size := by rw [hw0]; simp
  have HB5 : Hid (w0.cell? ⟨w.heap.size, 5, none⟩ = some (.int .i64 i.callee) ∧ w0.cell? ⟨w.heap.size, 6, none⟩ = some (.slice A i.args.length c)) := Lib.hid (by rw [hw0]; exact ⟨by simp [go_sem], by simp [go_sem]⟩)
  have hpl : p < w0.heap.size := lt_of_block HR0.out.cell
  clear hr ha hx
  go_enter Try.func40, Try.ntmps40
  go_upto_region 1 with fail
  rw [← hw0]
  clear hw0
  go_cut [] from 7 to 25 (fun wc => ∃ h', RunAt wc base p m n h' f (callD s i) ∧ Turn w wc p m h h')
  case first =>
    have c0 := HR0.out.c0
    have c9 := HR0.out.c9
    refine wp_region_gated (fun w' => w'.cell? ⟨p, 0, none⟩ = some (.map (some m)) ∧ w'.cell? ⟨p, 9, none⟩ = some (.slice h.C s.calls.length h.cc) ∧ w'.cell? ⟨w.heap.size, 5, none⟩ = some (.int .i64 i.callee) ∧ w'.cell? ⟨w.heap.size, 6, none⟩ = some (.slice A i.args.length c)) 19 (by kernel_rfl) ⟨c0, c9, HB5.out.1, HB5.out.2⟩ (fun hHeld => ?_)
    refine wpAnyG_take 0 (v := ?_) rfl (by kernel_rfl) (by kernel_rfl) (by kernel_rfl) (by kernel_rfl) (by kernel_rfl) (by kernel_rfl) (fun _ _ _ h => h) (Or.inl ⟨by rfl, ?_⟩) (by assumption) ?_
    rotate_left
    · (intro w hSw; (try dsimp only at hSw); go_simp; (try with_reducible rfl))
    try simp only [Act.put, List.getElem_toArray, List.getElem_cons_zero, List.getElem_cons_succ, List.setIfInBounds_toArray, List.set_cons_zero, List.set_cons_succ]
    refine wpAnyG_take 1 (v := ?_) rfl (by kernel_rfl) (by kernel_rfl) (by kernel_rfl) (by kernel_rfl) (by kernel_rfl) (by kernel_rfl) (fun _ _ _ h => h) (Or.inl ⟨by rfl, ?_⟩) (by assumption) ?_
    rotate_left
    · (intro w hSw; (try dsimp only at hSw); go_simp; (try with_reducible rfl))
    try simp only [Act.put, List.getElem_toArray, List.getElem_cons_zero, List.getElem_cons_succ, List.setIfInBounds_toArray, List.set_cons_zero, List.set_cons_succ]
    refine wpAnyG_take 2 (v := ?_) rfl (by kernel_rfl) (by kernel_rfl) (by kernel_rfl) (by kernel_rfl) (by kernel_rfl) (by kernel_rfl) (fun _ _ _ h => h) (Or.inl ⟨by rfl, ?_⟩) (by assumption) ?_
    rotate_left
    · (intro w hSw; (try dsimp only at hSw); go_simp; (try with_reducible rfl))
    try simp only [Act.put, List.getElem_toArray, List.getElem_cons_zero, List.getElem_cons_succ, List.setIfInBounds_toArray, List.set_cons_zero, List.set_cons_succ]
    refine wpAnyG_take 3 (v := ?_) rfl (by kernel_rfl) (by kernel_rfl) (by kernel_rfl) (by kernel_rfl) (by kernel_rfl) (by kernel_rfl) (fun _ _ _ h => h) (Or.inl ⟨by rfl, ?_⟩) (by assumption) ?_
    rotate_left
    · (intro w hSw; (try dsimp only at hSw); go_simp; (try with_reducible rfl))
    try simp only [Act.put, List.getElem_toArray, List.getElem_cons_zero, List.getElem_cons_succ, List.setIfInBounds_toArray, List.set_cons_zero, List.set_cons_succ]
    refine wpAnyG_take 4 (v := ?_) rfl (by kernel_rfl) (by kernel_rfl) (by kernel_rfl) (by kernel_rfl) (by kernel_rfl) (by kernel_rfl) (fun _ _ _ h => h) (Or.inl ⟨by rfl, ?_⟩) (by assumption) ?_
    rotate_left
    · (intro w hSw; (try dsimp only at hSw); go_simp; (try with_reducible rfl))
    try simp only [Act.put, List.getElem_toArray, List.getElem_cons_zero, List.getElem_cons_succ, List.setIfInBounds_toArray, List.set_cons_zero, List.set_cons_succ]
    refine wpAnyG_take 5 (v := ?_) rfl (by kernel_rfl) (by kernel_rfl) (by kernel_rfl) (by kernel_rfl) (by kernel_rfl) (by kernel_rfl) (fun _ _ _ h => h) (Or.inl ⟨by rfl, ?_⟩) (by assumption) ?_
    rotate_left
    · (intro w hSw; (try dsimp only at hSw); go_simp; (try with_reducible rfl))
    try simp only [Act.put, List.getElem_toArray, List.getElem_cons_zero, List.getElem_cons_succ, List.setIfInBounds_toArray, List.set_cons_zero, List.set_cons_succ]
    refine wpAnyG_take 6 (v := ?_) rfl (by kernel_rfl) (by kernel_rfl) (by kernel_rfl) (by kernel_rfl) (by kernel_rfl) (by kernel_rfl) (fun _ _ _ h => h) (Or.inl ⟨by rfl, ?_⟩) (by assumption) ?_
    rotate_left
    · (intro w hSw; (try dsimp only at hSw); go_simp; (try with_reducible rfl))
    try simp only [Act.put, List.getElem_toArray, List.getElem_cons_zero, List.getElem_cons_succ, List.setIfInBounds_toArray, List.set_cons_zero, List.set_cons_succ]
    refine wpAnyG_take 7 (v := ?_) rfl (by kernel_rfl) (by kernel_rfl) (by kernel_rfl) (by kernel_rfl) (by kernel_rfl) (by kernel_rfl) (fun _ _ _ h => h) (Or.inl ⟨by rfl, ?_⟩) (by assumption) ?_
    rotate_left
    · (intro w hSw; (try dsimp only at hSw); go_simp; (try with_reducible rfl))
    try simp only [Act.put, List.getElem_toArray, List.getElem_cons_zero, List.getElem_cons_succ, List.setIfInBounds_toArray, List.set_cons_zero, List.set_cons_succ]
    refine wpAnyG_take 8 (v := ?_) rfl (by kernel_rfl) (by kernel_rfl) (by kernel_rfl) (by kernel_rfl) (by kernel_rfl) (by kernel_rfl) (fun _ _ _ h => h) (Or.inl ⟨by rfl, ?_⟩) (by assumption) ?_
    rotate_left
    · (intro w hSw; (try dsimp only at hSw); go_simp; (try with_reducible rfl))
    try simp only [Act.put, List.getElem_toArray, List.getElem_cons_zero, List.getElem_cons_succ, List.setIfInBounds_toArray, List.set_cons_zero, List.set_cons_succ]
    refine wpAnyG_take 9 (v := ?_) rfl (by kernel_rfl) (by kernel_rfl) (by kernel_rfl) (by kernel_rfl) (by kernel_rfl) (by kernel_rfl) (fun _ _ _ h => h) (Or.inl ⟨by rfl, ?_⟩) (by assumption) ?_
    rotate_left
    · (intro w hSw; (try dsimp only at hSw); go_simp; (try with_reducible rfl))
    try simp only [Act.put, List.getElem_toArray, List.getElem_cons_zero, List.getElem_cons_succ, List.setIfInBounds_toArray, List.set_cons_zero, List.set_cons_succ]
    refine wpAnyG_take 10 (v := ?_) rfl (by kernel_rfl) (by kernel_rfl) (by kernel_rfl) (by kernel_rfl) (by kernel_rfl) (by kernel_rfl) (fun _ _ _ h => h) (Or.inl ⟨by rfl, ?_⟩) (by assumption) ?_
    rotate_left
    · (intro w hSw; (try dsimp only at hSw); go_simp; (try with_reducible rfl))
    try simp only [Act.put, List.getElem_toArray, List.getElem_cons_zero, List.getElem_cons_succ, List.setIfInBounds_toArray, List.set_cons_zero, List.set_cons_succ]
    refine wpAnyG_take 11 (v := ?_) rfl (by kernel_rfl) (by kernel_rfl) (by kernel_rfl) (by kernel_rfl) (by kernel_rfl) (by kernel_rfl) (fun _ _ _ h => h) (Or.inl ⟨by rfl, ?_⟩) (by assumption) ?_
    rotate_left
    · (intro w hSw; (try dsimp only at hSw); go_simp; (try with_reducible rfl))
    try simp only [Act.put, List.getElem_toArray, List.getElem_cons_zero, List.getElem_cons_succ, List.setIfInBounds_toArray, List.set_cons_zero, List.set_cons_succ]
    refine wpAnyG_take 12 (v := ?_) rfl (by kernel_rfl) (by kernel_rfl) (by kernel_rfl) (by kernel_rfl) (by kernel_rfl) (by kernel_rfl) (fun _ _ _ h => h) (Or.inl ⟨by rfl, ?_⟩) (by assumption) ?_
    rotate_left
    · (intro w hSw; (try dsimp only at hSw); go_simp; (try with_reducible rfl))
    try simp only [Act.put, List.getElem_toArray, List.getElem_cons_zero, List.getElem_cons_succ, List.setIfInBounds_toArray, List.set_cons_zero, List.set_cons_succ]
    refine wpAnyG_one 13 (by kernel_rfl) rfl (fun K hK => ?_)
    go_simp
    go_at_call 56
    refine (all_any w0.drew m n s.vars A c _ i.args rfl (HR0.out.vars.kept rfl) (HA0.out.below (Below.refl _ _).drew) HX.out (by omega)).mono ?_
    rintro e w1 ⟨v1, rfl, hb1, hown1⟩
    have hb1 : Below w0.heap.size w0 w1 := (Below.refl w0.heap.size w0).drew.trans hb1
    obtain ⟨A1, c1, rfl, hq1⟩ := RIQ.of_own hown1 (by simp; omega)
    have HQ1 := Lib.hid hq1
    have HB1 := Lib.hid hb1
    have HR1 := Lib.hid (HR0.out.below hb1)
    have d0 := HR1.out.c0
    have d9 := HR1.out.c9
    have d5 := (hb1.cell (p := ⟨w.heap.size, 5, none⟩) hz0).trans HB5.out.1
    have d6 := (hb1.cell (p := ⟨w.heap.size, 6, none⟩) hz0).trans HB5.out.2
    have HL1 : Hid ((i.args.map (getV s.vars)).length = i.args.length) := Lib.hid (by simp)
    clear hb1 hown1 hq1
    go_wp2_with fail
    refine hK.out _ _ (⟨d0, d9, d5, d6⟩) (fun hHeld => ?_)
    clear hK K
    try simp only [Act.put, List.getElem_toArray, List.getElem_cons_zero, List.getElem_cons_succ, List.setIfInBounds_toArray, List.set_cons_zero, List.set_cons_succ]
    refine wpAnyG_one 14 (by kernel_rfl) rfl (fun K hK => ?_)
    go_simp
    refine hK.out _ _ (⟨d0, d9, d5, d6⟩) (fun hHeld => ?_)
    clear hK K
    try simp only [Act.put, List.getElem_toArray, List.getElem_cons_zero, List.getElem_cons_succ, List.setIfInBounds_toArray, List.set_cons_zero, List.set_cons_succ]
    have hb2 : Below w1.heap.size w1 (w1.alloc (.cells #[.int .i64 i.callee, .slice A1 i.args.length c1] 68)) := (Below.refl _ _).alloc (Nat.le_refl _) _
    have hl1 : w.heap.size < w1.heap.size := Nat.lt_of_lt_of_le hz0 HB1.out.size
    have HR2 := Lib.hid (HR1.out.below hb2)
    have HB2 := Lib.hid hb2
    have f0 := HR2.out.c0
    have f9 := HR2.out.c9
    have f5 := (hb2.cell (p := ⟨w.heap.size, 5, none⟩) hl1).trans d5
    have f6 := (hb2.cell (p := ⟨w.heap.size, 6, none⟩) hl1).trans d6
    clear hb2
    refine wpAnyG_one 15 (by kernel_rfl) rfl (fun K hK => ?_)
    go_simp
    refine hK.out _ _ (⟨f0, f9, f5, f6⟩) (fun hHeld => ?_)
    clear hK K
    try simp only [Act.put, List.getElem_toArray, List.getElem_cons_zero, List.getElem_cons_succ, List.setIfInBounds_toArray, List.set_cons_zero, List.set_cons_succ]
    clear d0 d9 d5 d6
    obtain ⟨vs, hd, hoc, hcc, hcq⟩ := HR2.out.calls
    have HCC := Lib.hid hcc
    have HCQ := Lib.hid hcq
    have HOC := Lib.hid hoc
    clear hcc hcq hoc
    refine wpAnyG_one 16 (by kernel_rfl) rfl (fun K hK => ?_)
    refine wanted_go rfl ?_
    refine wp_append_raw_at _ _ 33 rfl base 68 Try.underlying33 zCall 2 32 Try.infoCall rfl (by decide) _ _ vs rfl HOC.out w1.heap.size [.int .i64 i.callee, .slice A1 i.args.length c1] rfl rfl (fun j u hj => ?_) (by intro u hu; simp at hu; rcases hu with rfl | rfl <;> rfl) (by unfold maxLen; omega) (by omega) (by have := HB1.out.size; simp; omega) ?_
    · match j, hj with
      | 0, hj => simp at hj; subst hj; simp [go_sem]
      | 1, hj => simp at hj; subst hj; simp [go_sem]
    intro v3 w3 hown3 hg3 hloc3
    obtain ⟨C3, cc3, rfl, _⟩ := own_slice hown3
    have hk := HR2.out.callPut ⟨i.callee, i.args.map (getV s.vars)⟩ A1 c1 ((HQ1.out.keep (.below HB2.out)).imp (fun b _ hb hf => by have := ((HR0.out).lt b hf).1; simp at hb; omega)) vs hd HCC.out HCQ.out C3 cc3 (by simpa using hown3) hg3 hloc3
    have HK := Lib.hid hk
    clear hk hown3
    have hneC : ∀ b, (b = p ∨ b = w.heap.size) → some b ≠ (Value.slice h.C s.calls.length h.cc).ownBlock := fun b hb e => by
      rw [own_blk] at e
      rcases hb with rfl | rfl
      · exact (HR2.out.apart.2.2.1 _ e.symm).1 rfl
      · have := HLF.out _ (.inr (.inr (.inr e.symm))); omega
    have hz3 := hg3.size
    have hl2 : w1.heap.size < (w1.alloc (.cells #[.int .i64 i.callee, .slice A1 i.args.length c1] 68)).heap.size := by simp
    have g0 := (World.cell?_of_block (a := ⟨p, 0, none⟩) (hg3.block p (by have := HB1.out.size; omega) (hneC p (.inl rfl)))).trans f0
    have g9 := (World.cell?_of_block (a := ⟨p, 9, none⟩) (hg3.block p (by have := HB1.out.size; omega) (hneC p (.inl rfl)))).trans f9
    have g5 := (World.cell?_of_block (a := ⟨w.heap.size, 5, none⟩) (hg3.block w.heap.size (by omega) (hneC _ (.inr rfl)))).trans f5
    have g6 := (World.cell?_of_block (a := ⟨w.heap.size, 6, none⟩) (hg3.block w.heap.size (by omega) (hneC _ (.inr rfl)))).trans f6
    have gz : w3.frozen? ⟨p, 9, none⟩ = false := by
      have e := (hg3.block p (by have := HB1.out.size; omega) (hneC p (.inl rfl))).trans HR2.out.cell
      exact frozen_of_row w3 p 9 _ 79 e
    clear hneC
    refine hK.out _ _ (⟨g0, g9, g5, g6⟩) (fun hHeld => ?_)
    clear hK K
    try simp only [Act.put, List.getElem_toArray, List.getElem_cons_zero, List.getElem_cons_succ, List.setIfInBounds_toArray, List.set_cons_zero, List.set_cons_succ]
    clear f0 f9 f5 f6
    refine wpAnyG_one 17 (by kernel_rfl) rfl (fun K hK => ?_)
    go_simp
    refine hK.out _ _ (⟨g0, g9, g5, g6⟩) (fun hHeld => ?_)
    clear hK K
    try simp only [Act.put, List.getElem_toArray, List.getElem_cons_zero, List.getElem_cons_succ, List.setIfInBounds_toArray, List.set_cons_zero, List.set_cons_succ]
    refine wpAnyG_one 18 (by kernel_rfl) rfl (fun K hK => ?_)
    go_simp
    refine hK.out _ _ (⟨g0, g9, g5, g6⟩) (fun hHeld => ?_)
    clear hK K
    try simp only [Act.put, List.getElem_toArray, List.getElem_cons_zero, List.getElem_cons_succ, List.setIfInBounds_toArray, List.set_cons_zero, List.set_cons_succ]
    refine wpAnyG_past 19 (by kernel_rfl) rfl (by kernel_rfl) (fun K hK => ?_)
    go_simp
    refine hK.out _ _ ?_
    clear hK K
    try simp only [Act.put, List.getElem_toArray, List.getElem_cons_zero, List.getElem_cons_succ, List.setIfInBounds_toArray, List.set_cons_zero, List.set_cons_succ]
    refine wpAnyG_done (by kernel_rfl) ?_ _
    go_wp2_with fail
    go_meet
    case rel => exact ⟨_, HK.out.1, (HT0.out.trans (.below HB1.out)).trans ((Turn.below HB2.out).trans HK.out.2)⟩
  case rest =>
    obtain ⟨h1, hr1, ht1⟩ := hcut
    have HR := Lib.hid hr1
    have HT := Lib.hid ht1
    have c8 := hr1.c8
    clear hr1 ht1
    cases hans : s.answers with
    | nil =>
      have HR3 : Hid (callR s i = (callD s i, 0, false)) := Lib.hid (by unfold callR; rw [hans])
      have hl0 : (callD s i).answers.length = 0 := by show s.answers.length = 0; rw [hans]; rfl
      rw [hl0] at c8
      clear hans hl0
      go_wp2
      go_ret2
      rw [HR3.out]
      exact ⟨rfl, h1, HR.out, HT.out⟩
    | cons a r =>
      have HR3 : Hid (callR s i = ({ callD s i with answers := r }, a, true)) := Lib.hid (by unfold callR; rw [hans])
      have hl0 : (callD s i).answers = a :: r := hans
      have hl1 : (callD s i).answers.length = r.length + 1 := by rw [hl0]; rfl
      rw [hl1] at c8
      have HAn : Hid (RIQ (fun b => ¬ Foot p m h1 b) wc h1.N h1.nc (a :: r)) := Lib.hid (by have := HR.out.ans; rwa [hl0] at this)
      obtain ⟨bN, oN, hNe, hNl, hNc⟩ := HAn.out.r.at 0 (by simp)
      have hNc : wc.cell? ⟨bN, oN, none⟩ = some (.int .i64 a) := by simpa using hNc
      rw [hNe] at c8
      have hcap := HAn.out.r.cap
      have hfz := HR.out.free 8
      have hap : RIQ (fun b => ¬ Foot p m h1 b) wc (some ⟨bN, oN + 1, none⟩) (h1.nc - 1) r := ⟨⟨by have := HAn.out.r.big; simp at this; omega, by simp at hcap; omega, fun h => by simp at h, fun j x hj => by
        obtain ⟨b', o', hb', hl', hc'⟩ := HAn.out.r.get (j + 1) x (by simpa using hj)
        rw [hNe] at hb'; cases hb'
        exact ⟨bN, oN + 1, rfl, hl', by rw [show oN + 1 + j = oN + (j + 1) by omega]; exact hc'⟩⟩, fun hne b o hb => by
        cases hb
        exact HAn.out.q (by simp) bN oN hNe⟩
      have HAP := Lib.hid hap
      have hr1 : r.length + 1 ≤ h1.nc := by simpa using hcap
      obtain ⟨q, hq⟩ : ∃ q, h1.nc = q := ⟨_, rfl⟩
      have HQn := Lib.hid hq
      rw [hq] at c8 hr1
      clear hap hans hl0 hl1 hcap hNe hq
      by_cases h1q : q = 1
      · subst h1q
        have hr0 : r = [] := List.length_eq_zero_iff.1 (by omega)
        subst hr0
        go_wp2
        go_ret2
        rw [HR3.out]
        have hp := HR.out.put (h' := { h1 with N := some ⟨bN, oN, none⟩, nc := 0 }) (s' := { callD s i with answers := [] }) 8 (.slice (some ⟨bN, oN, none⟩) 0 0) rfl rfl rfl rfl ⟨rfl, rfl, rfl, rfl, rfl, rfl, rfl, rfl⟩ ⟨⟨by simp, by simp, fun h => by simp at h, fun j x h => by simp at h⟩, fun h => absurd rfl h⟩
        exact ⟨rfl, _, hp.1, HT.out.trans hp.2⟩
      · go_wp2
        go_ret2
        rw [HR3.out]
        have hp := HR.out.put (h' := { h1 with N := some ⟨bN, oN + 1, none⟩, nc := q - 1 }) (s' := { callD s i with answers := r }) 8 (.slice (some ⟨bN, oN + 1, none⟩) r.length (q - 1)) rfl rfl rfl rfl ⟨rfl, rfl, rfl, rfl, rfl, rfl, rfl, rfl⟩ (by have := HAP.out; rwa [HQn.out] at this)
        exact ⟨rfl, _, hp.1, HT.out.trans hp.2⟩
end Go.Proofs.Ytnbmmfkkjceehaa
