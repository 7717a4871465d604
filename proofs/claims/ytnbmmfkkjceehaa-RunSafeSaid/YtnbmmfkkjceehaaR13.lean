/- Contract: (*Run).ins. -/
import Derived.Test.YtnbmmfkkjceehaaR12
import Derived.Deep.CutBlock
namespace Go.Proofs.Ytnbmmfkkjceehaa
set_option linter.unusedSimpArgs false
set_option linter.unusedVariables false
open Go.RowKit

/-- What an instruction makes: the run, the value, whether it did. -/
def insV0 (s : RunD) (i : InsD) : RunD × Int × Bool :=
  if i.op = 1 then (s, i.imm, true)
  else if i.op = 14 then (s, getV s.vars i.a, true)
  else if i.op = 13 then callR s i
  else if i.op = 11 then (if 0 ≤ wordI s.vars i ∧ wordI s.vars i < s.mem.length then (s, s.mem.getD (wordI s.vars i).toNat 0, true) else (s, i.imm, false))
  else if i.op = 12 then (if 0 ≤ wordI s.vars i ∧ wordI s.vars i < s.mem.length then ({ s with mem := s.mem.set (wordI s.vars i).toNat (getV s.vars i.b) }, getV s.vars i.b, true) else (s, i.imm, false))
  else (s, (calcI i.op (getV s.vars i.a) (getV s.vars i.b)).1, (calcI i.op (getV s.vars i.a) (getV s.vars i.b)).2)
def insR (s : RunD) (i : InsD) : RunD × NextD :=
  if (insV0 s i).2.2 then ((if 0 < i.dst then { (insV0 s i).1 with vars := setV (insV0 s i).1.vars i.dst (insV0 s i).2.1 } else (insV0 s i).1), .spot (insV0 s i).1.block ((insV0 s i).1.ins + 1))
  else ((insV0 s i).1, .done 2 0)
/-- All numbers of a run are numbers. -/
structure RunW (s : RunD) : Prop where
  mem : ∀ v ∈ s.mem, okI v
  answers : ∀ v ∈ s.answers, okI v
  mlen : s.mem.length ≤ 64
  calls : s.calls.length ≤ 1000000
theorem insV0_same (s : RunD) (i : InsD) : (insV0 s i).1.ins = s.ins ∧ (insV0 s i).1.block = s.block ∧ (insV0 s i).1.fin = s.fin ∧ (insV0 s i).1.value = s.value ∧ (insV0 s i).1.steps = s.steps ∧ (insV0 s i).1.vars = s.vars := by
  unfold insV0
  repeat' split
  all_goals first
    | exact ⟨rfl, rfl, rfl, rfl, rfl, rfl⟩
    | (unfold callR; split <;> exact ⟨rfl, rfl, rfl, rfl, rfl, rfl⟩)
def RetInsR (base p m n : Nat) (h : RunH) (f : FnD) (r : RunD × NextD) (w : World) (e : Ending) (w' : World) : Prop := e = .returned r.2.v ∧ ∃ h' n', RunAt w' base p m n' h' f r.1 ∧ Turn w w' p m h h' ∧ n' ≤ n + 1
theorem wp_put {o : Oper} {a : Act} {w : World} {K : Act → World → Prop} {Q : Exit → Act → World → Prop} (p x v : Operand) (T : TypeId) (hop : o.op = Op.mapUpdate T p x v) (hT : Try.prog.underlying T = some (.map 3 3))
    (m n : Nat) (s : ValF) (hm : a.eval p = .map (some m)) (h : VarsAt w m n s) (hn : n < maxLen) (y u : Int) (hx : a.eval x = .int .i64 y) (hv : a.eval v = .int .i64 u) (hy : okI y) (hu : okI u)
    (hK : ∀ w', VarsAt w' m (n + 1) (setV s y u) → w.grownBy w' (some m) → K (a.put o.dst undef) w') : o.wp Try.prog a w K Q := by
  obtain ⟨w', hrun, r1, r2⟩ := h.put hT hn y u hy hu
  unfold Oper.wp
  simp [execOp, hop, hm, hx, hv, hrun, Result.andThen, Oper.upon]
  exact hK w' r1 r2
theorem okI_wrap (x : Int) : okI (wrap64 x) := wrap64_wf x
theorem okI_num (n : Int) (h0 : -1000 ≤ n) (h1 : n ≤ 1000) : okI n := by unfold okI; exact WalkArith.wf_i64 (by omega)
theorem okI_truth (b : Bool) : okI (truthI b) := by cases b <;> exact okI_num _ (by simp [truthI]) (by simp [truthI])
theorem okI_bits (o : BinOp) (a b : Int) : okI (Go.bits o .i64 a b) := wf_bits o .i64 a b
theorem RunAt.memCell {w : World} {base p m n g k : Nat} {h : RunH} {f : FnD} {s : RunD} (hr : RunAt w base p m n h f s) (hM : h.M = some ⟨g, 0, none⟩) (hk : k < s.mem.length) : w.cell? ⟨g, k, none⟩ = some (.int .i64 (s.mem.getD k 0)) ∧ w.frozen? ⟨g, k, none⟩ = false := by
  have h1 := hr.mem
  rw [hM] at h1
  exact ⟨own_cells h1 k _ (by simp [hk]), h1.frozenAt k⟩
theorem okI_calc (o a b : Int) : okI (calcI o a b).1 := by
  unfold calcI
  by_cases h2 : o = 2
  · rw [if_pos h2]; exact okI_wrap _
  rw [if_neg h2]
  by_cases h3 : o = 3
  · rw [if_pos h3]; exact okI_wrap _
  rw [if_neg h3]
  by_cases h4 : o = 4
  · rw [if_pos h4]; exact okI_wrap _
  rw [if_neg h4]
  by_cases h6 : o = 6
  · rw [if_pos h6]; exact okI_bits .and a b
  rw [if_neg h6]
  by_cases h7 : o = 7
  · rw [if_pos h7]; exact okI_bits .or a b
  rw [if_neg h7]
  by_cases h8 : o = 8
  · rw [if_pos h8]; exact okI_bits .xor a b
  rw [if_neg h8]
  by_cases h9 : o = 9
  · rw [if_pos h9]; exact okI_truth _
  rw [if_neg h9]
  by_cases h10 : o = 10
  · rw [if_pos h10]; exact okI_truth _
  rw [if_neg h10]
  by_cases h5 : o = 5 ∧ b ≠ 0
  · rw [if_pos h5]; exact okI_wrap _
  · rw [if_neg h5]; exact okI_num _ (by omega) (by omega)
theorem okI_of {n : Int} (h : wfI n) : okI n := by unfold wfI at h; unfold okI; exact WalkArith.wf_i64 (by omega)
set_option maxRecDepth 100000 in
set_option maxHeartbeats 4000000 in
theorem ins_any (w : World) (base p m n : Nat) (h : RunH) (f : FnD) (s : RunD) (A : Option Addr) (c : Nat) (i : InsD) (hr : RunAt w base p m n h f s) (hbase : base ≤ w.heap.size) (ha : RI w A c i.args) (h8 : i.args.length ≤ 8) (hi : InsW i) (hs : RunW s) (hn : n ≤ 1000000) (hin : s.ins ≤ 1000000) :
    Calls Try.prog 29 #[.pointer (some ⟨p, 0, none⟩), insV A c i] w (RetInsR base p m n h f (insR s i) w) := by
  simp only [insV]
  obtain ⟨w0, hw0⟩ : ∃ w0 : World, w0 = w.alloc (.cells #[.int .i64 i.op, .int .i64 i.dst, .int .i64 i.a, .int .i64 i.b, .int .i64 i.imm, .int .i64 i.callee, .slice A i.args.length c, .int .i64 i.many] 59) := ⟨_, rfl⟩
  have hb0 : Below w.heap.size w w0 := by rw [hw0]; go_grown
  have HR0 := Lib.hid (hr.below hb0)
  have HT0 : Hid (Turn w w0 p m h h) := Lib.hid (.below hb0)
  have HA0 := Lib.hid (ha.below hb0)
  have HI := Lib.hid hi
  have HS := Lib.hid hs
  have HLF := Lib.hid (fun b hb => (hr.lt b hb).1)
  have hz0 : w.heap.size < w0.heap.size := by rw [hw0]; simp
  have hbase0 : base ≤ w0.heap.size := by omega
  have e0 : w0.cell? ⟨w.heap.size, 0, none⟩ = some (.int .i64 i.op) := by rw [hw0]; simp [go_sem]
  have e1 : w0.cell? ⟨w.heap.size, 1, none⟩ = some (.int .i64 i.dst) := by rw [hw0]; simp [go_sem]
  have e2 : w0.cell? ⟨w.heap.size, 2, none⟩ = some (.int .i64 i.a) := by rw [hw0]; simp [go_sem]
  have e3 : w0.cell? ⟨w.heap.size, 3, none⟩ = some (.int .i64 i.b) := by rw [hw0]; simp [go_sem]
  have e4 : w0.cell? ⟨w.heap.size, 4, none⟩ = some (.int .i64 i.imm) := by rw [hw0]; simp [go_sem]
  have e5 : w0.cell? ⟨w.heap.size, 5, none⟩ = some (.int .i64 i.callee) := by rw [hw0]; simp [go_sem]
  have e6 : w0.cell? ⟨w.heap.size, 6, none⟩ = some (.slice A i.args.length c) := by rw [hw0]; simp [go_sem]
  have e7 : w0.cell? ⟨w.heap.size, 7, none⟩ = some (.int .i64 i.many) := by rw [hw0]; simp [go_sem]
  have HE1 := Lib.hid e1
  have c0 := HR0.out.c0
  clear hr ha hi hs
  go_enter Try.func29, Try.ntmps29
  go_upto_block 0 with fail
  rw [← hw0]
  clear hw0
  go_cut [5, 6] from 7 to 76 (fun bv vv wc => ∃ h', bv = .bool (insV0 s i).2.2 ∧ vv = .int .i64 (insV0 s i).2.1 ∧ RunAt wc base p m n h' f (insV0 s i).1 ∧ Turn w0 wc p m h h' ∧ okI (insV0 s i).2.1 ∧ Hid ((insV0 s i).1.vars = s.vars))
  case first =>
    have ela : ∀ k, (Instr.lookup 71 (.map (some m)) (.int .i64 i.a) false).run Try.prog (w0.drewN k) = .ok (.int .i64 (getV s.vars i.a)) (w0.drewN k) := fun k => (HR0.out.vars.kept (w' := w0.drewN k) rfl).look Try.mapVars _ (okI_of HI.out.a)
    have elb : ∀ k, (Instr.lookup 71 (.map (some m)) (.int .i64 i.b) false).run Try.prog (w0.drewN k) = .ok (.int .i64 (getV s.vars i.b)) (w0.drewN k) := fun k => (HR0.out.vars.kept (w' := w0.drewN k) rfl).look Try.mapVars _ (okI_of HI.out.b)
    have hoa : okI (getV s.vars i.a) := HR0.out.vars.okv Try.mapVars _ (okI_of HI.out.a)
    have hob : okI (getV s.vars i.b) := HR0.out.vars.okv Try.mapVars _ (okI_of HI.out.b)
    have HOa := Lib.hid hoa
    have HOb := Lib.hid hob
    obtain ⟨va, hva⟩ : ∃ v, getV s.vars i.a = v := ⟨_, rfl⟩
    obtain ⟨vb, hvb⟩ : ∃ v, getV s.vars i.b = v := ⟨_, rfl⟩
    have HVa := Lib.hid hva
    have HVb := Lib.hid hvb
    simp only [hva] at ela
    simp only [hvb] at elb
    clear hva hvb hoa hob
    by_cases h1 : i.op = 1
    · have HV : Hid (insV0 s i = (s, i.imm, true)) := Lib.hid (by unfold insV0; rw [if_pos h1])
      have hb : (i.op == 1) = true := by simpa using h1
      clear h1
      go_wp2
      go_meet
      case rel => rw [HV.out]; exact ⟨h, rfl, rfl, HR0.out, .below (Below.refl _ _), okI_of HI.out.imm, Lib.hid rfl⟩
    · have hb1 : (i.op == 1) = false := by simpa using h1
      by_cases h14 : i.op = 14
      · have HV : Hid (insV0 s i = (s, va, true)) := Lib.hid (by unfold insV0; rw [if_neg h1, if_pos h14, HVa.out])
        have hb : (i.op == 14) = true := by simpa using h14
        clear h1 h14
        go_wp2_with fail
        go_quiet (fail)
        go_wp2
        go_meet
        case rel => rw [HV.out]; exact ⟨h, rfl, rfl, HR0.out.below (below_dn (Below.refl _ _) _), .below (below_dn (Below.refl _ _) _), (by rw [← HVa.out]; exact HOa.out), Lib.hid rfl⟩
      · have hb14 : (i.op == 14) = false := by simpa using h14
        by_cases h13 : i.op = 13
        · have HV : Hid (insV0 s i = callR s i) := Lib.hid (by unfold insV0; rw [if_neg h1, if_neg h14, if_pos h13])
          have hb : (i.op == 13) = true := by simpa using h13
          clear h1 h14 h13
          go_wp2_with (go_at_call 40; refine (call_any _ base p m n h f s A c i HR0.out hbase0 HA0.out (fun x hx => okI_of (HI.out.args x hx)) h8 HS.out.calls).mono ?_; rintro e w1 ⟨rfl, h', hr', ht'⟩; have HR' := Lib.hid hr'; have HT' := Lib.hid ht'; clear hr' ht')
          go_meet
          case rel =>
            rw [HV.out]
            refine ⟨h', rfl, rfl, HR'.out, HT'.out, ?_, Lib.hid ?_⟩
            · unfold callR
              split
              · exact okI_num 0 (by omega) (by omega)
              · rename_i a r ha; exact HS.out.answers a (by rw [ha]; simp)
            · unfold callR; split <;> rfl
        · have hb13 : (i.op == 13) = false := by simpa using h13
          obtain ⟨q, hq⟩ : ∃ q, wordI s.vars i = q := ⟨_, rfl⟩
          have HQ := Lib.hid hq
          clear hq
          by_cases h11 : i.op = 11
          · have HV : Hid (insV0 s i = if 0 ≤ q ∧ q < s.mem.length then (s, s.mem.getD q.toNat 0, true) else (s, i.imm, false)) := Lib.hid (by unfold insV0; rw [if_neg h1, if_neg h14, if_neg h13, if_pos h11, HQ.out])
            have hb : (i.op == 11) = true := by simpa using h11
            have hb12 : (i.op == 12) = false := by rw [h11]; rfl
            clear h1 h14 h13 h11
            go_wp2_with (go_at_call 41; refine (word_any _ base p m n h f s A c i HR0.out (okI_of HI.out.a) HS.out.mlen).mono ?_; rintro e w1 ⟨hbl, hor⟩; rw [HQ.out] at hor; have HB1 := Lib.hid hbl; have e0' := (hbl.cell (p := ⟨w.heap.size, 0, none⟩) hz0).trans e0; clear hbl; rcases hor with ⟨hq0, hq1, g, k, hM, rfl, rfl⟩ | ⟨hqn, rfl⟩; (have hkl : k < s.mem.length := by omega); (have hcm := ((HR0.out.below HB1.out).memCell hM hkl).1))
            · go_meet
              case rel =>
                rw [HV.out, if_pos ⟨by omega, by omega⟩, Int.toNat_natCast]
                refine ⟨h, rfl, (by simp [List.getD, hkl]), HR0.out.below HB1.out, .below HB1.out, ?_, Lib.hid rfl⟩
                have hv : s.mem.getD k 0 ∈ s.mem := by simp [List.getD, hkl]
                exact HS.out.mem _ hv
            · go_meet
              case rel =>
                rw [HV.out, if_neg hqn]
                exact ⟨h, rfl, rfl, HR0.out.below HB1.out, .below HB1.out, okI_of HI.out.imm, Lib.hid rfl⟩
          · have hb11 : (i.op == 11) = false := by simpa using h11
            by_cases h12 : i.op = 12
            · have HV : Hid (insV0 s i = if 0 ≤ q ∧ q < s.mem.length then ({ s with mem := s.mem.set q.toNat vb }, vb, true) else (s, i.imm, false)) := Lib.hid (by unfold insV0; rw [if_neg h1, if_neg h14, if_neg h13, if_neg h11, if_pos h12, HQ.out, HVb.out])
              have hb : (i.op == 12) = true := by simpa using h12
              clear h1 h14 h13 h11 h12
              go_wp2_with (go_at_call 41; refine (word_any _ base p m n h f s A c i HR0.out (okI_of HI.out.a) HS.out.mlen).mono ?_; rintro e w1 ⟨hbl, hor⟩; rw [HQ.out] at hor; have HB1 := Lib.hid hbl; have e0' := (hbl.cell (p := ⟨w.heap.size, 0, none⟩) hz0).trans e0; have e3' := (hbl.cell (p := ⟨w.heap.size, 3, none⟩) hz0).trans e3; clear hbl; rcases hor with ⟨hq0, hq1, g, k, hM, rfl, rfl⟩ | ⟨hqn, rfl⟩)
              · have hkl : k < s.mem.length := by omega
                have HR1 := Lib.hid (HR0.out.below HB1.out)
                have d0 := HR1.out.c0
                have HMg := Lib.hid hM
                obtain ⟨hcm, hfm⟩ := HR1.out.memCell hM hkl
                have elb1 : (Instr.lookup 71 (.map (some m)) (.int .i64 i.b) false).run Try.prog w1.drew = .ok (.int .i64 vb) w1.drew := by
                  have := (HR1.out.vars.kept (w' := w1.drew) rfl).look Try.mapVars _ (okI_of HI.out.b)
                  have h9 := HVb.out
                  unfold getV at h9
                  rwa [h9] at this
                clear ela elb e0 e1 e2 e3 e4 e5 e6 e7 c0 hM
                refine wp_region_gated (fun w' => w'.cell? ⟨p, 0, none⟩ = some (.map (some m)) ∧ w'.cell? ⟨w.heap.size, 3, none⟩ = some (.int .i64 i.b) ∧ (Instr.lookup 71 (.map (some m)) (.int .i64 i.b) false).run Try.prog w' = .ok (.int .i64 vb) w') 9 (by kernel_rfl) ⟨d0, e3', elb1⟩ (fun hHeld => ?_)
                refine wpAnyG_take 0 (v := ?_) rfl (by kernel_rfl) (by kernel_rfl) (by kernel_rfl) (by kernel_rfl) (by kernel_rfl) (by kernel_rfl) (fun _ _ _ h => h) (Or.inl ⟨by rfl, ?_⟩) (by assumption) ?_
                rotate_left
                · (intro w hSw; (try dsimp only at hSw); go_simp; (try with_reducible rfl))
                try simp only [Act.put, List.getElem_toArray, List.getElem_cons_zero, List.getElem_cons_succ, List.setIfInBounds_toArray, List.set_cons_zero, List.set_cons_succ]
                refine wpAnyG_take 1 (v := ?_) rfl (by kernel_rfl) (by kernel_rfl) (by kernel_rfl) (by kernel_rfl) (by kernel_rfl) (by kernel_rfl) (fun _ _ _ h => h) (Or.inl ⟨by rfl, ?_⟩) (by assumption) ?_
                rotate_left
                · (intro w hSw; (try dsimp only at hSw); go_simp; (try with_reducible rfl))
                try simp only [Act.put, List.getElem_toArray, List.getElem_cons_zero, List.getElem_cons_succ, List.setIfInBounds_toArray, List.set_cons_zero, List.set_cons_succ]
                refine wpAnyG_take 2 (v := ?_) rfl (by kernel_rfl) (by kernel_rfl) (by kernel_rfl) (by kernel_rfl) (by kernel_rfl) (by kernel_rfl) (fun _ _ _ h => h) (Or.inl ⟨by rfl, ?_⟩) (by assumption) ?_
                rotate_left
                · (intro w hSw; (try dsimp only at hSw); go_simp; (try with_reducible rfl))
                try simp only [Act.put, List.getElem_toArray, List.getElem_cons_zero, List.getElem_cons_succ, List.setIfInBounds_toArray, List.set_cons_zero, List.set_cons_succ]
                refine wpAnyG_take 3 (v := ?_) rfl (by kernel_rfl) (by kernel_rfl) (by kernel_rfl) (by kernel_rfl) (by kernel_rfl) (by kernel_rfl) (fun _ _ _ h => h) (Or.inl ⟨by rfl, ?_⟩) (by assumption) ?_
                rotate_left
                · (intro w hSw; (try dsimp only at hSw); go_simp; (try with_reducible rfl))
                try simp only [Act.put, List.getElem_toArray, List.getElem_cons_zero, List.getElem_cons_succ, List.setIfInBounds_toArray, List.set_cons_zero, List.set_cons_succ]
                refine wpAnyG_take 4 (v := ?_) rfl (by kernel_rfl) (by kernel_rfl) (by kernel_rfl) (by kernel_rfl) (by kernel_rfl) (by kernel_rfl) (fun _ _ _ h => h) (Or.inl ⟨by rfl, ?_⟩) (by assumption) ?_
                rotate_left
                · (intro w hSw; (try dsimp only at hSw); go_simp; (try with_reducible rfl))
                try simp only [Act.put, List.getElem_toArray, List.getElem_cons_zero, List.getElem_cons_succ, List.setIfInBounds_toArray, List.set_cons_zero, List.set_cons_succ]
                refine wpAnyG_take 5 (v := ?_) rfl (by kernel_rfl) (by kernel_rfl) (by kernel_rfl) (by kernel_rfl) (by kernel_rfl) (by kernel_rfl) (fun _ _ _ h => h) (Or.inl ⟨by rfl, ?_⟩) (by assumption) ?_
                rotate_left
                · (intro w hSw; (try dsimp only at hSw); go_simp; (try with_reducible rfl))
                try simp only [Act.put, List.getElem_toArray, List.getElem_cons_zero, List.getElem_cons_succ, List.setIfInBounds_toArray, List.set_cons_zero, List.set_cons_succ]
                refine wpAnyG_take 6 (v := ?_) rfl (by kernel_rfl) (by kernel_rfl) (by kernel_rfl) (by kernel_rfl) (by kernel_rfl) (by kernel_rfl) (fun _ _ _ h => h) (Or.inl ⟨by rfl, ?_⟩) (by assumption) ?_
                rotate_left
                · (intro w hSw; (try dsimp only at hSw); go_simp; (try with_reducible rfl))
                try simp only [Act.put, List.getElem_toArray, List.getElem_cons_zero, List.getElem_cons_succ, List.setIfInBounds_toArray, List.set_cons_zero, List.set_cons_succ]
                refine wpAnyG_take 7 (v := ?_) rfl (by kernel_rfl) (by kernel_rfl) (by kernel_rfl) (by kernel_rfl) (by kernel_rfl) (by kernel_rfl) (fun _ _ _ h => h) (Or.inl ⟨by rfl, ?_⟩) (by assumption) ?_
                rotate_left
                · (intro w hSw; (try dsimp only at hSw); go_simp; (try with_reducible rfl))
                try simp only [Act.put, List.getElem_toArray, List.getElem_cons_zero, List.getElem_cons_succ, List.setIfInBounds_toArray, List.set_cons_zero, List.set_cons_succ]
                refine wpAnyG_one 8 (by kernel_rfl) rfl (fun K hK => ?_)
                go_simp
                refine hK.out _ _ (⟨d0, e3', elb1⟩) (fun hHeld => ?_)
                clear hK K
                try simp only [Act.put, List.getElem_toArray, List.getElem_cons_zero, List.getElem_cons_succ, List.setIfInBounds_toArray, List.set_cons_zero, List.set_cons_succ]
                refine wpAnyG_past 9 (by kernel_rfl) rfl (by kernel_rfl) (fun K hK => ?_)
                go_simp
                refine hK.out _ _ ?_
                clear hK K
                try simp only [Act.put, List.getElem_toArray, List.getElem_cons_zero, List.getElem_cons_succ, List.setIfInBounds_toArray, List.set_cons_zero, List.set_cons_succ]
                refine wpAnyG_done (by kernel_rfl) ?_ _
                go_wp2
                go_meet
                case rel =>
                  rw [HV.out, if_pos ⟨by omega, by omega⟩, Int.toNat_natCast]
                  have hmp := ((HR1.out.below (w' := w1.drew) (Below.refl _ _).drew)).memPut (k := k) HMg.out vb
                  exact ⟨h, rfl, rfl, hmp.1, (Turn.below HB1.out).trans ((Turn.below (w' := w1.drew) (Below.refl _ _).drew).trans hmp.2), (by rw [← HVb.out]; exact HOb.out), Lib.hid rfl⟩
              · go_meet
                case rel =>
                  rw [HV.out, if_neg hqn]
                  exact ⟨h, rfl, rfl, HR0.out.below HB1.out, .below HB1.out, okI_of HI.out.imm, Lib.hid rfl⟩
            · have hb12 : (i.op == 12) = false := by simpa using h12
              have HV : Hid (insV0 s i = (s, (calcI i.op va vb).1, (calcI i.op va vb).2)) := Lib.hid (by unfold insV0; rw [if_neg h1, if_neg h14, if_neg h13, if_neg h11, if_neg h12, HVa.out, HVb.out])
              clear h1 h14 h13 h11 h12
              obtain ⟨r1, r2, hr12⟩ : ∃ r1 r2, calcI i.op va vb = (r1, r2) := ⟨_, _, rfl⟩
              have hcalc : ∀ w, Calls Try.prog 6 #[.int .i64 i.op, .int .i64 va, .int .i64 vb] w (fun e w' => e = .returned (.tuple #[.int .i64 r1, .bool r2]) ∧ w' = w) := fun w => (calc_any i.op va vb w).mono (fun e w' h => ⟨by rw [h.1, hr12], h.2.symm⟩)
              have HC := Lib.hid hcalc
              have H12 := Lib.hid hr12
              clear hcalc hr12
              go_wp2_with fail
              go_quiet ((go_at_call 6; exact Calls.quiet_of_same (HC.out _)))
              go_wp2
              go_meet
              case rel =>
                have h9 := okI_calc i.op va vb
                rw [H12.out] at h9
                rw [HV.out, H12.out]
                exact ⟨h, rfl, rfl, HR0.out.below (below_dn (Below.refl _ _) _), .below (below_dn (Below.refl _ _) _), h9, Lib.hid rfl⟩
  case rest =>
    obtain ⟨h', rfl, rfl, hr1, ht1, hov, HVv⟩ := hcut
    obtain ⟨r, hr⟩ : ∃ r, insV0 s i = r := ⟨_, rfl⟩
    have hsi : r.1.ins ≤ 1000000 := by rw [← hr, (insV0_same s i).1]; exact hin
    have hF : Hid (insR s i = if r.2.2 then ((if 0 < i.dst then { r.1 with vars := setV r.1.vars i.dst r.2.1 } else r.1), .spot r.1.block (r.1.ins + 1)) else (r.1, .done 2 0)) := Lib.hid (by unfold insR; rw [hr])
    rw [hr] at hr1 hov HVv ⊢
    obtain ⟨sr, vr, br⟩ := r
    simp only at hr1 hov HVv hF hsi ⊢
    have HR1 := Lib.hid hr1
    have HT1 := Lib.hid (HT0.out.trans ht1)
    have HO := Lib.hid hov
    have hne1 : ¬ Foot p m h w.heap.size := fun hf => by have := HLF.out _ hf; omega
    have d1 := (World.cell?_of_block (a := ⟨w.heap.size, 1, none⟩) (ht1.keep w.heap.size hz0 hne1)).trans HE1.out
    have hzc := ht1.size
    clear hr hr1 ht1 hov e0 e1 e2 e3 e4 e5 e6 e7 c0
    cases br
    · go_wp2_with (go_at_call 42; refine (trap_any _).mono ?_; rintro e w' ⟨rfl, rfl⟩)
      go_ret
      rw [hF.out]
      exact ⟨rfl, h', n, HR1.out, HT1.out, by omega⟩
    · have d0 := HR1.out.c0
      by_cases hd : 0 < i.dst
      · have HF2 : Hid (insR s i = ({ sr with vars := setV sr.vars i.dst vr }, .spot sr.block (sr.ins + 1))) := Lib.hid (by rw [hF.out]; simp [hd])
        clear hF
        go_upto_region 21 with fail
        refine wp_region_gated (fun w' => w'.cell? ⟨p, 0, none⟩ = some (.map (some m)) ∧ w'.cell? ⟨w.heap.size, 1, none⟩ = some (.int .i64 i.dst)) 7 (by kernel_rfl) ⟨d0, d1⟩ (fun hHeld => ?_)
        refine wpAnyG_take 0 (v := ?_) rfl (by kernel_rfl) (by kernel_rfl) (by kernel_rfl) (by kernel_rfl) (by kernel_rfl) (by kernel_rfl) (fun _ _ _ h => h) (Or.inl ⟨by rfl, ?_⟩) (by assumption) ?_
        rotate_left
        · (intro w hSw; (try dsimp only at hSw); go_simp; (try with_reducible rfl))
        try simp only [Act.put, List.getElem_toArray, List.getElem_cons_zero, List.getElem_cons_succ, List.setIfInBounds_toArray, List.set_cons_zero, List.set_cons_succ]
        refine wpAnyG_take 1 (v := ?_) rfl (by kernel_rfl) (by kernel_rfl) (by kernel_rfl) (by kernel_rfl) (by kernel_rfl) (by kernel_rfl) (fun _ _ _ h => h) (Or.inl ⟨by rfl, ?_⟩) (by assumption) ?_
        rotate_left
        · (intro w hSw; (try dsimp only at hSw); go_simp; (try with_reducible rfl))
        try simp only [Act.put, List.getElem_toArray, List.getElem_cons_zero, List.getElem_cons_succ, List.setIfInBounds_toArray, List.set_cons_zero, List.set_cons_succ]
        refine wpAnyG_take 2 (v := ?_) rfl (by kernel_rfl) (by kernel_rfl) (by kernel_rfl) (by kernel_rfl) (by kernel_rfl) (by kernel_rfl) (fun _ _ _ h => h) (Or.inl ⟨by rfl, ?_⟩) (by assumption) ?_
        rotate_left
        · (intro w hSw; (try dsimp only at hSw); go_simp; (try with_reducible rfl))
        try simp only [Act.put, List.getElem_toArray, List.getElem_cons_zero, List.getElem_cons_succ, List.setIfInBounds_toArray, List.set_cons_zero, List.set_cons_succ]
        refine wpAnyG_take 3 (v := ?_) rfl (by kernel_rfl) (by kernel_rfl) (by kernel_rfl) (by kernel_rfl) (by kernel_rfl) (by kernel_rfl) (fun _ _ _ h => h) (Or.inl ⟨by rfl, ?_⟩) (by assumption) ?_
        rotate_left
        · (intro w hSw; (try dsimp only at hSw); go_simp; (try with_reducible rfl))
        try simp only [Act.put, List.getElem_toArray, List.getElem_cons_zero, List.getElem_cons_succ, List.setIfInBounds_toArray, List.set_cons_zero, List.set_cons_succ]
        refine wpAnyG_take 4 (v := ?_) rfl (by kernel_rfl) (by kernel_rfl) (by kernel_rfl) (by kernel_rfl) (by kernel_rfl) (by kernel_rfl) (fun _ _ _ h => h) (Or.inl ⟨by rfl, ?_⟩) (by assumption) ?_
        rotate_left
        · (intro w hSw; (try dsimp only at hSw); go_simp; (try with_reducible rfl))
        try simp only [Act.put, List.getElem_toArray, List.getElem_cons_zero, List.getElem_cons_succ, List.setIfInBounds_toArray, List.set_cons_zero, List.set_cons_succ]
        refine wpAnyG_take 5 (v := ?_) rfl (by kernel_rfl) (by kernel_rfl) (by kernel_rfl) (by kernel_rfl) (by kernel_rfl) (by kernel_rfl) (fun _ _ _ h => h) (Or.inl ⟨by rfl, ?_⟩) (by assumption) ?_
        rotate_left
        · (intro w hSw; (try dsimp only at hSw); go_simp; (try with_reducible rfl))
        try simp only [Act.put, List.getElem_toArray, List.getElem_cons_zero, List.getElem_cons_succ, List.setIfInBounds_toArray, List.set_cons_zero, List.set_cons_succ]
        refine wpAnyG_take 6 (v := ?_) rfl (by kernel_rfl) (by kernel_rfl) (by kernel_rfl) (by kernel_rfl) (by kernel_rfl) (by kernel_rfl) (fun _ _ _ h => h) (Or.inl ⟨by rfl, ?_⟩) (by assumption) ?_
        rotate_left
        · (intro w hSw; (try dsimp only at hSw); go_simp; (try with_reducible rfl))
        try simp only [Act.put, List.getElem_toArray, List.getElem_cons_zero, List.getElem_cons_succ, List.setIfInBounds_toArray, List.set_cons_zero, List.set_cons_succ]
        refine wpAnyG_past 7 (by kernel_rfl) rfl (by kernel_rfl) (fun K hK => ?_)
        refine wanted_go rfl ?_
        refine wp_put _ _ _ 71 rfl Try.mapVars m n sr.vars rfl (HR1.out.vars.kept (w' := wc.drew) rfl) (by unfold maxLen; omega) i.dst vr rfl rfl (okI_of HI.out.dst) HO.out ?_
        intro w5 hv5 hg5
        have hp5 := (HR1.out.below (w' := wc.drew) (Below.refl _ _).drew).varPut i.dst vr hv5 hg5
        have HR5 := Lib.hid hp5.1
        have HT5 : Hid (Turn w w5 p m h h') := Lib.hid ((HT1.out.trans (.below (Below.refl _ _).drew)).trans hp5.2)
        clear hp5 hv5 hg5
        refine hK.out _ _ ?_
        clear hK K
        try simp only [Act.put, List.getElem_toArray, List.getElem_cons_zero, List.getElem_cons_succ, List.setIfInBounds_toArray, List.set_cons_zero, List.set_cons_succ]
        refine wpAnyG_done (by kernel_rfl) ?_ _
        have c1 := HR5.out.c1
        have c2 := HR5.out.c2
        simp only at c1 c2
        have hw1 : IntKind.i64.wrap ((sr.ins : Int) + 1) = (sr.ins : Int) + 1 := IntWalk.i64_in _ (by omega)
        clear d0 d1
        go_wp2_with fail
        go_quiet (fail)
        go_wp2
        go_ret
        rw [HF2.out]
        exact ⟨rfl, h', n + 1, HR5.out.below (below_dn (Below.refl _ _) _), HT5.out.trans (.below (below_dn (Below.refl _ _) _)), by omega⟩
      · have HF2 : Hid (insR s i = (sr, .spot sr.block (sr.ins + 1))) := Lib.hid (by rw [hF.out]; simp [hd])
        clear hF
        have c1 := HR1.out.c1
        have c2 := HR1.out.c2
        have hw1 : IntKind.i64.wrap ((sr.ins : Int) + 1) = (sr.ins : Int) + 1 := IntWalk.i64_in _ (by omega)
        go_wp2_with fail
        go_quiet (fail)
        go_wp2
        go_ret
        rw [HF2.out]
        exact ⟨rfl, h', n, HR1.out.below (below_dn (Below.refl _ _) _), HT1.out.trans (.below (below_dn (Below.refl _ _) _)), by omega⟩
end Go.Proofs.Ytnbmmfkkjceehaa
