/- Contract: (*Run).Result. -/
import Derived.Test.YtnbmmfkkjceehaaR14
namespace Go.Proofs.Ytnbmmfkkjceehaa
set_option linter.unusedSimpArgs false
set_option linter.unusedVariables false
open Go.RowKit

/-- A row of calls that is read. -/
structure RCalls (w : World) (A : Option Addr) (c : Nat) (l : List CallD) : Prop where
  cap : l.length ≤ c
  nil : A = none → c = 0
  get : ∀ j x, l[j]? = some x → ∃ b o A' c', A = some ⟨b, o, none⟩ ∧ b < w.heap.size ∧ w.cell? ⟨b, o + j * 2, none⟩ = some (.int .i64 x.callee) ∧ w.cell? ⟨b, o + j * 2 + 1, none⟩ = some (.slice A' x.args.length c') ∧ RI w A' c' x.args
theorem RCalls.below {w w' : World} {A : Option Addr} {c : Nat} {l : List CallD} (h : RCalls w A c l) (hb : Below w.heap.size w w') : RCalls w' A c l :=
  ⟨h.1, h.2, fun j x hj => by
    obtain ⟨b, o, A', c', h1, h2, h3, h4, h5⟩ := h.get j x hj
    exact ⟨b, o, A', c', h1, Nat.lt_of_lt_of_le h2 hb.size, (hb.cell (p := ⟨b, o + j * 2, none⟩) h2).trans h3, (hb.cell (p := ⟨b, o + j * 2 + 1, none⟩) h2).trans h4, h5.below hb⟩⟩
theorem CallsAt.r {w : World} {base : Nat} {Q : Nat → Prop} {C : Option Addr} {cc : Nat} {l : List CallD} (h : CallsAt w base Q C cc l) : RCalls w C cc l := by
  obtain ⟨vs, hd, h1, h2, h3⟩ := h
  have h1' := h1
  rcases h1.2 with ⟨h4, h5⟩ | ⟨g, cap, cur, hv, hg, hh, hnc, _⟩
  · have hl : l = [] := List.length_eq_zero_iff.1 h5
    subst hl
    injection h4 with e1 _ e2
    exact ⟨by simp, fun _ => e2, fun j x hj => by simp at hj⟩
  · injection hv with e1 _ e2
    subst e1 e2
    refine ⟨hnc, fun h => by simp at h, fun j x hj => ?_⟩
    have hq := h2.2 j x hj
    refine ⟨g, 0, (hd j).1, (hd j).2, rfl, (Array.getElem?_eq_some_iff.1 hh).1, ?_, ?_, (h3 j x hj).r⟩
    · rw [Nat.zero_add]; exact own_cells h1' _ _ hq.1
    · rw [Nat.zero_add]; exact own_cells h1' _ _ hq.2
/-- The same, with every block meeting Q. -/
structure RCallsQ (Q : Nat → Prop) (w : World) (A : Option Addr) (c : Nat) (l : List CallD) : Prop where
  cap : l.length ≤ c
  nil : A = none → c = 0
  get : ∀ j x, l[j]? = some x → ∃ b o A' c', A = some ⟨b, o, none⟩ ∧ b < w.heap.size ∧ Q b ∧ w.cell? ⟨b, o + j * 2, none⟩ = some (.int .i64 x.callee) ∧ w.cell? ⟨b, o + j * 2 + 1, none⟩ = some (.slice A' x.args.length c') ∧ RIQ Q w A' c' x.args
theorem RCallsQ.r {Q : Nat → Prop} {w : World} {A : Option Addr} {c : Nat} {l : List CallD} (h : RCallsQ Q w A c l) : RCalls w A c l :=
  ⟨h.1, h.2, fun j x hj => by obtain ⟨b, o, A', c', h1, h2, _, h4, h5, h6⟩ := h.get j x hj; exact ⟨b, o, A', c', h1, h2, h4, h5, h6.r⟩⟩
theorem RCallsQ.keep {Q : Nat → Prop} {w w' : World} {A : Option Addr} {c : Nat} {l : List CallD} (h : RCallsQ Q w A c l) (hk : KeepQ Q w w') : RCallsQ Q w' A c l :=
  ⟨h.1, h.2, fun j x hj => by
    obtain ⟨b, o, A', c', h1, h2, h3, h4, h5, h6⟩ := h.get j x hj
    exact ⟨b, o, A', c', h1, Nat.lt_of_lt_of_le h2 hk.size, h3, (hk.cell h3 h2 _).trans h4, (hk.cell h3 h2 _).trans h5, h6.keep hk⟩⟩
theorem RCallsQ.imp {Q Q' : Nat → Prop} {w : World} {A : Option Addr} {c : Nat} {l : List CallD} (h : RCallsQ Q w A c l) (hq : ∀ b, b < w.heap.size → Q b → Q' b) : RCallsQ Q' w A c l :=
  ⟨h.1, h.2, fun j x hj => by
    obtain ⟨b, o, A', c', h1, h2, h3, h4, h5, h6⟩ := h.get j x hj
    exact ⟨b, o, A', c', h1, h2, hq b h2 h3, h4, h5, h6.imp hq⟩⟩
theorem CallsAt.rq {w : World} {base : Nat} {Q Q' : Nat → Prop} {C : Option Addr} {cc : Nat} {l : List CallD} (h : CallsAt w base Q C cc l) (hb : ∀ b, base ≤ b → Q' b) (hQ : ∀ b, Q b → Q' b) : RCallsQ Q' w C cc l := by
  obtain ⟨vs, hd, h1, h2, h3⟩ := h
  have h1' := h1
  have hlt := h1.lt
  rcases h1.2 with ⟨h4, h5⟩ | ⟨g, cap, cur, hv, hg, hh, hnc, _⟩
  · have hl : l = [] := List.length_eq_zero_iff.1 h5
    subst hl
    injection h4 with e1 _ e2
    exact ⟨by simp, fun _ => e2, fun j x hj => by simp at hj⟩
  · injection hv with e1 _ e2
    subst e1 e2
    refine ⟨hnc, fun h => by simp at h, fun j x hj => ?_⟩
    have hq := h2.2 j x hj
    refine ⟨g, 0, (hd j).1, (hd j).2, rfl, (Array.getElem?_eq_some_iff.1 hh).1, hb g (hlt g rfl).1, ?_, ?_, (h3 j x hj).imp (fun b _ q => hQ b q)⟩
    · rw [Nat.zero_add]; exact own_cells h1' _ _ hq.1
    · rw [Nat.zero_add]; exact own_cells h1' _ _ hq.2
theorem callsPush {w w' : World} {base R j : Nat} {C : Option Addr} {cc : Nat} {l : List CallD} (vs : List Value) (hd : HdF) (hcc : CCall vs l hd) (hq : ∀ j y, l[j]? = some y → RIQ (fun b => R < b ∧ (Value.slice C 0 0).ownBlock ≠ some b) w (hd j).1 (hd j).2 y.args) (x : CallD) (A6 : Option Addr) (c6 : Nat)
    (ha : RIQ (fun b => R < b ∧ (Value.slice C 0 0).ownBlock ≠ some b) w A6 c6 x.args) (C' : Option Addr) (cc' : Nat) (ho : w'.ownsRow base 68 2 (.slice C' (l.length + 1) cc') (l.length + 1) (vs ++ [.int .i64 x.callee, .slice A6 x.args.length c6]))
    (hg : w.grownBy w' (Value.slice C l.length cc).ownBlock) (hloc : (Value.slice C' (l.length + 1) cc').ownBlock = (Value.slice C l.length cc).ownBlock ∨ (Value.slice C' (l.length + 1) cc').ownBlock = some w.heap.size) (hR : R < base) (v : Value) :
    CallsAt (w'.setCell ⟨R, j, none⟩ v) base (fun b => R < b ∧ (Value.slice C' 0 0).ownBlock ≠ some b) C' cc' (l ++ [x]) := by
  rw [own_blk] at hg hloc
  rw [own_blk C] at hloc
  have ho2 : ∀ b, b ≠ R → (w'.setCell ⟨R, j, none⟩ v).heap[b]? = w'.heap[b]? := fun b hb => Below.heap_setCell _ _ _ _ hb
  have hk : KeepQ (fun b => R < b ∧ (Value.slice C 0 0).ownBlock ≠ some b) w (w'.setCell ⟨R, j, none⟩ v) := ⟨by simpa [World.setCell] using hg.size, fun b hb hlt => by
    rw [ho2 b (by omega)]
    exact hg.block b hlt (fun e => hb.2 e.symm)⟩
  have himp : ∀ b, b < w.heap.size → (R < b ∧ (Value.slice C 0 0).ownBlock ≠ some b) → (R < b ∧ (Value.slice C' 0 0).ownBlock ≠ some b) := fun b hb hn => ⟨hn.1, fun e => by
    rcases hloc with h1 | h1
    · rw [h1] at e; exact hn.2 e
    · rw [h1] at e; injection e with e; omega⟩
  refine ⟨vs ++ [.int .i64 x.callee, .slice A6 x.args.length c6], updH hd l.length (A6, c6), ?_, ?_, ?_⟩
  · have := own_keep (w' := w'.setCell ⟨R, j, none⟩ v) ho (fun b hb => ho2 b (by have := (ho.lt b hb).1; omega))
    simpa using this
  · refine ⟨by simp [hcc.1]; omega, fun j y hj => ?_⟩
    by_cases e : j < l.length
    · rw [List.getElem?_append_left e] at hj
      have := hcc.2 j y hj
      have hlen := hcc.1
      rw [List.getElem?_append_left (by omega), List.getElem?_append_left (by omega)]
      have hne : j ≠ l.length := by omega
      simpa [updH, hne] using this
    · have hjl := (List.getElem?_eq_some_iff.1 hj).1
      have : j = l.length := by simp at hjl; omega
      subst this
      simp at hj
      subst hj
      have hlen := hcc.1
      rw [List.getElem?_append_right (by omega), List.getElem?_append_right (by omega)]
      simp [updH, hlen]
  · intro j y hj
    by_cases e : j < l.length
    · rw [List.getElem?_append_left e] at hj
      have hne : j ≠ l.length := by omega
      have := (hq j y hj).turn himp hk
      simpa [updH, hne] using this
    · have hjl := (List.getElem?_eq_some_iff.1 hj).1
      have : j = l.length := by simp at hjl; omega
      subst this
      simp at hj
      subst hj
      have := ha.turn himp hk
      simpa [updH] using this
def resV (s : RunD) (C : Option Addr) (cc : Nat) (M : Option Addr) (mc : Nat) : Value := .agg #[.int .i64 s.fin, .int .i64 s.value, .slice C s.calls.length cc, .slice M s.mem.length mc, .int .i64 s.steps]
def RetResult (s : RunD) (w : World) (e : Ending) (w' : World) : Prop := ∃ C cc M mc, e = .returned (resV s C cc M mc) ∧ Below w.heap.size w w' ∧ RIQ (w.heap.size ≤ ·) w' M mc s.mem ∧ RCallsQ (w.heap.size ≤ ·) w' C cc s.calls
def resC (s : RunD) (k : Nat) (C : Option Addr) (cc : Nat) (M : Option Addr) (mc : Nat) : Array Value := #[.int .i64 s.fin, .int .i64 s.value, .slice C k cc, .slice M s.mem.length mc, .int .i64 s.steps]
set_option maxRecDepth 100000 in
set_option maxHeartbeats 4000000 in
theorem result_any (w : World) (base p m n : Nat) (h : RunH) (f : FnD) (s : RunD) (hr : RunAt w base p m n h f s) (hs : RunW s) (h8 : ∀ x ∈ s.calls, x.args.length ≤ 8) : Calls Try.prog 16 #[.pointer (some ⟨p, 0, none⟩)] w (RetResult s w) := by
  have qm : ∀ W : World, (binOp .eql 71 (.map (some m)) (.map none)).run Try.prog W = .ok (.bool false) W := fun W => run_eql_map_nil W _ _ _ (some m) Try.mapVars
  have hm64 := hs.mlen
  have hcl := hs.calls
  have HR := Lib.hid hr
  have H8 := Lib.hid h8
  have hpl : p < w.heap.size := lt_of_block hr.cell
  clear hs h8
  go_enter Try.func16, Try.ntmps16
  have c0 := hr.c0
  have c3 := hr.c3
  have c4 := hr.c4
  have c7 := hr.c7
  have c10 := hr.c10
  clear hr
  go_upto_region 3 with fail
  obtain ⟨w0, hw0⟩ : ∃ w0 : World, w0 = w.alloc (.cells #[.int .i64 0, .int .i64 0, .slice none 0 0, .slice none 0 0, .int .i64 0] 35) := ⟨_, rfl⟩
  have hb0 : Below w.heap.size w w0 := by rw [hw0]; go_grown
  have HR0 := Lib.hid (HR.out.below hb0)
  have HB0 := Lib.hid hb0
  have hz0 : w0.heap.size = w.heap.size + 1 := by rw [hw0]; simp
  have Hz0 := Lib.hid hz0
  have HX0 : Hid (w0.heap[w.heap.size]? = some (.cells #[.int .i64 0, .int .i64 0, .slice none 0 0, .slice none 0 0, .int .i64 0] 35 (0, 0))) := Lib.hid (by rw [hw0]; exact heap_alloc_new w _)
  rw [← hw0]
  clear hw0 hb0 hz0 c0 c3 c4 c7 c10
  have c3 := HR0.out.c3
  have c4 := HR0.out.c4
  have c7 := HR0.out.c7
  have c10 := HR0.out.c10
  have hlt0 : w.heap.size < w0.heap.size := by rw [Hz0.out]; omega
  refine wp_region_gated (fun w' => w'.cell? ⟨p, 3, none⟩ = some (.int .i64 s.fin) ∧ w'.cell? ⟨p, 4, none⟩ = some (.int .i64 s.value) ∧ w'.cell? ⟨p, 7, none⟩ = some (.slice h.M s.mem.length h.mc) ∧ w'.cell? ⟨p, 10, none⟩ = some (.int .i64 s.steps)) 20 (by kernel_rfl) ⟨c3, c4, c7, c10⟩ (fun hHeld => ?_)
  refine wpAnyG_take 0 (v := ?_) rfl (by kernel_rfl) (by kernel_rfl) (by kernel_rfl) (by kernel_rfl) (by kernel_rfl) (by kernel_rfl) (fun _ _ _ h => h) (Or.inl ⟨by rfl, ?_⟩) (by assumption) ?_
  rotate_left
  · (intro w hSw; (try dsimp only at hSw); go_simp; (try with_reducible rfl))
  try simp only [Act.put, List.getElem_toArray, List.getElem_cons_zero, List.getElem_cons_succ, List.setIfInBounds_toArray, List.set_cons_zero, List.set_cons_succ]
  refine wpAnyG_take 1 (v := ?_) rfl (by kernel_rfl) (by kernel_rfl) (by kernel_rfl) (by kernel_rfl) (by kernel_rfl) (by kernel_rfl) (fun _ _ _ h => h) (Or.inl ⟨by rfl, ?_⟩) (by assumption) ?_
  rotate_left
  · (intro w hSw; (try dsimp only at hSw); go_simp; (try with_reducible rfl))
  try simp only [Act.put, List.getElem_toArray, List.getElem_cons_zero, List.getElem_cons_succ, List.setIfInBounds_toArray, List.set_cons_zero, List.set_cons_succ]
  refine wpAnyG_take 2 (v := ?_) rfl (by kernel_rfl) (by kernel_rfl) (by kernel_rfl) (by kernel_rfl) (by kernel_rfl) (by kernel_rfl) (fun _ _ _ h => h) (Or.inl ⟨by rfl, ?_⟩) (by assumption) ?_
  rotate_left
  · (intro w hSw; (try dsimp only at hSw); go_simp; (try with_reducible rfl))
  try simp only [Act.put, List.getElem_toArray, List.getElem_cons_zero, List.getElem_cons_succ, List.setIfInBounds_toArray, List.set_cons_zero, List.set_cons_succ]
  refine wpAnyG_take 3 (v := ?_) rfl (by kernel_rfl) (by kernel_rfl) (by kernel_rfl) (by kernel_rfl) (by kernel_rfl) (by kernel_rfl) (fun _ _ _ h => h) (Or.inl ⟨by rfl, ?_⟩) (by assumption) ?_
  rotate_left
  · (intro w hSw; (try dsimp only at hSw); go_simp; (try with_reducible rfl))
  try simp only [Act.put, List.getElem_toArray, List.getElem_cons_zero, List.getElem_cons_succ, List.setIfInBounds_toArray, List.set_cons_zero, List.set_cons_succ]
  refine wpAnyG_take 4 (v := ?_) rfl (by kernel_rfl) (by kernel_rfl) (by kernel_rfl) (by kernel_rfl) (by kernel_rfl) (by kernel_rfl) (fun _ _ _ h => h) (Or.inl ⟨by rfl, ?_⟩) (by assumption) ?_
  rotate_left
  · (intro w hSw; (try dsimp only at hSw); go_simp; (try with_reducible rfl))
  try simp only [Act.put, List.getElem_toArray, List.getElem_cons_zero, List.getElem_cons_succ, List.setIfInBounds_toArray, List.set_cons_zero, List.set_cons_succ]
  refine wpAnyG_take 5 (v := ?_) rfl (by kernel_rfl) (by kernel_rfl) (by kernel_rfl) (by kernel_rfl) (by kernel_rfl) (by kernel_rfl) (fun _ _ _ h => h) (Or.inl ⟨by rfl, ?_⟩) (by assumption) ?_
  rotate_left
  · (intro w hSw; (try dsimp only at hSw); go_simp; (try with_reducible rfl))
  try simp only [Act.put, List.getElem_toArray, List.getElem_cons_zero, List.getElem_cons_succ, List.setIfInBounds_toArray, List.set_cons_zero, List.set_cons_succ]
  refine wpAnyG_take 6 (v := ?_) rfl (by kernel_rfl) (by kernel_rfl) (by kernel_rfl) (by kernel_rfl) (by kernel_rfl) (by kernel_rfl) (fun _ _ _ h => h) (Or.inl ⟨by rfl, ?_⟩) (by assumption) ?_
  rotate_left
  · (intro w hSw; (try dsimp only at hSw); go_simp; (try with_reducible rfl))
  try simp only [Act.put, List.getElem_toArray, List.getElem_cons_zero, List.getElem_cons_succ, List.setIfInBounds_toArray, List.set_cons_zero, List.set_cons_succ]
  refine wpAnyG_take 7 (v := ?_) rfl (by kernel_rfl) (by kernel_rfl) (by kernel_rfl) (by kernel_rfl) (by kernel_rfl) (by kernel_rfl) (fun _ _ _ h => h) (Or.inl ⟨by rfl, ?_⟩) (by assumption) ?_
  rotate_left
  · (intro w hSw; (try dsimp only at hSw); go_simp; (try with_reducible rfl))
  try simp only [Act.put, List.getElem_toArray, List.getElem_cons_zero, List.getElem_cons_succ, List.setIfInBounds_toArray, List.set_cons_zero, List.set_cons_succ]
  refine wpAnyG_take 8 (v := ?_) rfl (by kernel_rfl) (by kernel_rfl) (by kernel_rfl) (by kernel_rfl) (by kernel_rfl) (by kernel_rfl) (fun _ _ _ h => h) (Or.inl ⟨by rfl, ?_⟩) (by assumption) ?_
  rotate_left
  · (intro w hSw; (try dsimp only at hSw); go_simp; (try with_reducible rfl))
  try simp only [Act.put, List.getElem_toArray, List.getElem_cons_zero, List.getElem_cons_succ, List.setIfInBounds_toArray, List.set_cons_zero, List.set_cons_succ]
  refine wpAnyG_take 9 (v := ?_) rfl (by kernel_rfl) (by kernel_rfl) (by kernel_rfl) (by kernel_rfl) (by kernel_rfl) (by kernel_rfl) (fun _ _ _ h => h) (Or.inl ⟨by rfl, ?_⟩) (by assumption) ?_
  rotate_left
  · (intro w hSw; (try dsimp only at hSw); go_simp; (try with_reducible rfl))
  try simp only [Act.put, List.getElem_toArray, List.getElem_cons_zero, List.getElem_cons_succ, List.setIfInBounds_toArray, List.set_cons_zero, List.set_cons_succ]
  refine wpAnyG_take 10 (v := ?_) rfl (by kernel_rfl) (by kernel_rfl) (by kernel_rfl) (by kernel_rfl) (by kernel_rfl) (by kernel_rfl) (fun _ _ _ h => h) (Or.inl ⟨by rfl, ?_⟩) (by assumption) ?_
  rotate_left
  · (intro w hSw; (try dsimp only at hSw); go_simp; (try with_reducible rfl))
  try simp only [Act.put, List.getElem_toArray, List.getElem_cons_zero, List.getElem_cons_succ, List.setIfInBounds_toArray, List.set_cons_zero, List.set_cons_succ]
  refine wpAnyG_take 11 (v := ?_) rfl (by kernel_rfl) (by kernel_rfl) (by kernel_rfl) (by kernel_rfl) (by kernel_rfl) (by kernel_rfl) (fun _ _ _ h => h) (Or.inl ⟨by rfl, ?_⟩) (by assumption) ?_
  rotate_left
  · (intro w hSw; (try dsimp only at hSw); go_simp; (try with_reducible rfl))
  try simp only [Act.put, List.getElem_toArray, List.getElem_cons_zero, List.getElem_cons_succ, List.setIfInBounds_toArray, List.set_cons_zero, List.set_cons_succ]
  refine wpAnyG_take 12 (v := ?_) rfl (by kernel_rfl) (by kernel_rfl) (by kernel_rfl) (by kernel_rfl) (by kernel_rfl) (by kernel_rfl) (fun _ _ _ h => h) (Or.inl ⟨by rfl, ?_⟩) (by assumption) ?_
  rotate_left
  · (intro w hSw; (try dsimp only at hSw); go_simp; (try with_reducible rfl))
  try simp only [Act.put, List.getElem_toArray, List.getElem_cons_zero, List.getElem_cons_succ, List.setIfInBounds_toArray, List.set_cons_zero, List.set_cons_succ]
  refine wpAnyG_take 13 (v := ?_) rfl (by kernel_rfl) (by kernel_rfl) (by kernel_rfl) (by kernel_rfl) (by kernel_rfl) (by kernel_rfl) (fun _ _ _ h => h) (Or.inl ⟨by rfl, ?_⟩) (by assumption) ?_
  rotate_left
  · (intro w hSw; (try dsimp only at hSw); go_simp; (try with_reducible rfl))
  try simp only [Act.put, List.getElem_toArray, List.getElem_cons_zero, List.getElem_cons_succ, List.setIfInBounds_toArray, List.set_cons_zero, List.set_cons_succ]
  refine wpAnyG_take 15 (v := ?_) rfl (by kernel_rfl) (by kernel_rfl) (by kernel_rfl) (by kernel_rfl) (by kernel_rfl) (by kernel_rfl) (fun _ _ _ h => h) (Or.inl ⟨by rfl, ?_⟩) (by assumption) ?_
  rotate_left
  · (intro w hSw; (try dsimp only at hSw); go_simp; (try with_reducible rfl))
  try simp only [Act.put, List.getElem_toArray, List.getElem_cons_zero, List.getElem_cons_succ, List.setIfInBounds_toArray, List.set_cons_zero, List.set_cons_succ]
  refine wpAnyG_take 16 (v := ?_) rfl (by kernel_rfl) (by kernel_rfl) (by kernel_rfl) (by kernel_rfl) (by kernel_rfl) (by kernel_rfl) (fun _ _ _ h => h) (Or.inl ⟨by rfl, ?_⟩) (by assumption) ?_
  rotate_left
  · (intro w hSw; (try dsimp only at hSw); go_simp; (try with_reducible rfl))
  try simp only [Act.put, List.getElem_toArray, List.getElem_cons_zero, List.getElem_cons_succ, List.setIfInBounds_toArray, List.set_cons_zero, List.set_cons_succ]
  refine wpAnyG_take 17 (v := ?_) rfl (by kernel_rfl) (by kernel_rfl) (by kernel_rfl) (by kernel_rfl) (by kernel_rfl) (by kernel_rfl) (fun _ _ _ h => h) (Or.inl ⟨by rfl, ?_⟩) (by assumption) ?_
  rotate_left
  · (intro w hSw; (try dsimp only at hSw); go_simp; (try with_reducible rfl))
  try simp only [Act.put, List.getElem_toArray, List.getElem_cons_zero, List.getElem_cons_succ, List.setIfInBounds_toArray, List.set_cons_zero, List.set_cons_succ]
  refine wpAnyG_take 18 (v := ?_) rfl (by kernel_rfl) (by kernel_rfl) (by kernel_rfl) (by kernel_rfl) (by kernel_rfl) (by kernel_rfl) (fun _ _ _ h => h) (Or.inl ⟨by rfl, ?_⟩) (by assumption) ?_
  rotate_left
  · (intro w hSw; (try dsimp only at hSw); go_simp; (try with_reducible rfl))
  try simp only [Act.put, List.getElem_toArray, List.getElem_cons_zero, List.getElem_cons_succ, List.setIfInBounds_toArray, List.set_cons_zero, List.set_cons_succ]
  refine wpAnyG_one 14 (by kernel_rfl) rfl (fun K hK => ?_)
  go_simp
  go_at_call 28
  obtain ⟨Am, cm, hMm, hrm⟩ := ownsRow_RI (HR0.out.mem) (by omega)
  obtain ⟨hMA, hMc⟩ : h.M = Am ∧ h.mc = cm := by injection hMm with h1 _ h2; exact ⟨h1, h2⟩
  have HRM : Hid (RI w0 h.M h.mc s.mem) := Lib.hid (by rw [hMA, hMc]; exact hrm)
  clear hMm hrm hMA hMc
  refine (clone_any _ h.M h.mc s.mem (HRM.out.below (Below.refl _ _).drew) (by omega)).mono ?_
  rintro e w1 ⟨v1, rfl, hb1, hown1⟩
  have hb1 : Below w0.heap.size w0 w1 := (Below.refl w0.heap.size w0).drew.trans hb1
  obtain ⟨M, mc, rfl, _⟩ := own_slice hown1
  have HO1 : Hid (w1.ownsRow w0.heap.size 3 1 (.slice M s.mem.length mc) s.mem.length (s.mem.map (Value.int .i64))) := Lib.hid hown1
  have HB1 := Lib.hid hb1
  have hpl0 : p < w0.heap.size := by omega
  have d3 := (hb1.cell (p := ⟨p, 3, none⟩) hpl0).trans c3
  have d4 := (hb1.cell (p := ⟨p, 4, none⟩) hpl0).trans c4
  have d7 := (hb1.cell (p := ⟨p, 7, none⟩) hpl0).trans c7
  have d10 := (hb1.cell (p := ⟨p, 10, none⟩) hpl0).trans c10
  have HX1 : Hid (w1.heap[w.heap.size]? = some (.cells #[.int .i64 0, .int .i64 0, .slice none 0 0, .slice none 0 0, .int .i64 0] 35 (0, 0))) := Lib.hid ((hb1.block _ hlt0).trans HX0.out)
  clear hb1 hown1
  go_wp2_with fail
  refine hK.out _ _ (⟨d3, d4, d7, d10⟩) (fun hHeld => ?_)
  clear hK K
  try simp only [Act.put, List.getElem_toArray, List.getElem_cons_zero, List.getElem_cons_succ, List.setIfInBounds_toArray, List.set_cons_zero, List.set_cons_succ]
  refine wpAnyG_one 19 (by kernel_rfl) rfl (fun K hK => ?_)
  go_simp
  refine hK.out _ _ (⟨d3, d4, d7, d10⟩) (fun hHeld => ?_)
  clear hK K
  try simp only [Act.put, List.getElem_toArray, List.getElem_cons_zero, List.getElem_cons_succ, List.setIfInBounds_toArray, List.set_cons_zero, List.set_cons_succ]
  refine wpAnyG_past 20 (by kernel_rfl) rfl (by kernel_rfl) (fun K hK => ?_)
  have k0 : w1.cell? ⟨w.heap.size, 0, none⟩ = some (.int .i64 0) := by rw [cell_of_row w1 _ 0 _ _ _ HX1.out]; rfl
  have k1 : w1.cell? ⟨w.heap.size, 1, none⟩ = some (.int .i64 0) := by rw [cell_of_row w1 _ 1 _ _ _ HX1.out]; rfl
  have k2 : w1.cell? ⟨w.heap.size, 2, none⟩ = some (.slice none 0 0) := by rw [cell_of_row w1 _ 2 _ _ _ HX1.out]; rfl
  have k3 : w1.cell? ⟨w.heap.size, 3, none⟩ = some (.slice none 0 0) := by rw [cell_of_row w1 _ 3 _ _ _ HX1.out]; rfl
  have k4 : w1.cell? ⟨w.heap.size, 4, none⟩ = some (.int .i64 0) := by rw [cell_of_row w1 _ 4 _ _ _ HX1.out]; rfl
  have z0 := frozen_of_row w1 w.heap.size 0 _ _ HX1.out
  have z1 := frozen_of_row w1 w.heap.size 1 _ _ HX1.out
  have z2 := frozen_of_row w1 w.heap.size 2 _ _ HX1.out
  have z3 := frozen_of_row w1 w.heap.size 3 _ _ HX1.out
  have z4 := frozen_of_row w1 w.heap.size 4 _ _ HX1.out
  go_simp
  refine hK.out _ _ ?_
  clear hK K
  try simp only [Act.put, List.getElem_toArray, List.getElem_cons_zero, List.getElem_cons_succ, List.setIfInBounds_toArray, List.set_cons_zero, List.set_cons_succ]
  refine wpAnyG_done (by kernel_rfl) ?_ _
  clear k0 k1 k2 k3 k4 z0 z1 z2 z3 z4 d3 d4 d7 d10 c3 c4 c7 c10 hHeld
  obtain ⟨W5, hW5⟩ : ∃ W5 : World, W5 = (((((w1.setCell ⟨w.heap.size, 0, none⟩ (.int .i64 s.fin)).setCell ⟨w.heap.size, 1, none⟩ (.int .i64 s.value)).setCell ⟨w.heap.size, 2, none⟩ (.slice none 0 0)).setCell ⟨w.heap.size, 3, none⟩ (.slice M s.mem.length mc)).setCell ⟨w.heap.size, 4, none⟩ (.int .i64 s.steps)) := ⟨_, rfl⟩
  have HX5 : Hid (W5.heap[w.heap.size]? = some (.cells (resC s 0 none 0 M mc) 35 (0, 0))) := Lib.hid (by
    have h1 := heap_setCell_same w1 w.heap.size 0 _ 35 (.int .i64 s.fin) HX1.out
    have h2 := heap_setCell_same _ w.heap.size 1 _ 35 (.int .i64 s.value) h1
    have h3 := heap_setCell_same _ w.heap.size 2 _ 35 (.slice none 0 0) h2
    have h4 := heap_setCell_same _ w.heap.size 3 _ 35 (.slice M s.mem.length mc) h3
    have h5 := heap_setCell_same _ w.heap.size 4 _ 35 (.int .i64 s.steps) h4
    rw [hW5, h5]; simp [resC])
  have hlt1 : w.heap.size < w1.heap.size := Nat.lt_of_lt_of_le hlt0 HB1.out.size
  have HB5 : Hid (Below w.heap.size w W5) := Lib.hid (by
    rw [hW5]
    exact (((((HB0.out.trans (HB1.out.mono (by omega))).setCell (Nat.le_refl _) _).setCell (Nat.le_refl _) _).setCell (Nat.le_refl _) _).setCell (Nat.le_refl _) _).setCell (Nat.le_refl _) _)
  have hz5 : W5.heap.size = w1.heap.size := by rw [hW5]; simp [World.setCell]
  have HO5 : Hid (W5.ownsRow w0.heap.size 3 1 (.slice M s.mem.length mc) s.mem.length (s.mem.map (Value.int .i64))) := Lib.hid (own_keep HO1.out (fun b hb => by
    have hne : b ≠ w.heap.size := by have := (HO1.out.lt b hb).1; omega
    rw [hW5, Below.heap_setCell _ _ _ _ hne, Below.heap_setCell _ _ _ _ hne, Below.heap_setCell _ _ _ _ hne, Below.heap_setCell _ _ _ _ hne, Below.heap_setCell _ _ _ _ hne]))
  rw [← hW5]
  clear hW5
  have HR5 := Lib.hid (HR.out.below HB5.out)
  have c9 := HR5.out.c9
  go_wp2_with fail
  clear c9
  have HRC := Lib.hid HR.out.calls.r
  go_loopw [40] (fun kv wr => ∃ (k : Nat) (C : Option Addr) (cc : Nat), k ≤ s.calls.length ∧ kv = .int .i64 k ∧ wr.heap[w.heap.size]? = some (.cells (resC s k C cc M mc) 35 (0, 0)) ∧ CallsAt wr w0.heap.size (fun b => w.heap.size < b ∧ (Value.slice C 0 0).ownBlock ≠ some b) C cc (s.calls.take k) ∧ wr.ownsRow w0.heap.size 3 1 (.slice M s.mem.length mc) s.mem.length (s.mem.map (Value.int .i64)) ∧ Below w.heap.size w wr) (fun kv _ => s.calls.length - (intOf kv).toNat)
  case atStart => exact ⟨0, none, 0, Nat.zero_le _, rfl, HX5.out, ⟨[], fun _ => (none, 0), World.ownsRow_nil _ _ _ _, ⟨rfl, fun j x h => by simp at h⟩, fun j x h => by simp at h⟩, HO5.out, HB5.out⟩
  case round =>
    obtain ⟨k, C, cc, hk, rfl, hx, hca, ho, hb⟩ := hrel
    have HX := Lib.hid hx
    have HCA := Lib.hid hca
    have HO := Lib.hid ho
    have HB := Lib.hid hb
    have hRl : w.heap.size < wr.heap.size := lt_of_block hx
    have r2 : wr.cell? ⟨w.heap.size, 2, none⟩ = some (.slice C k cc) := by rw [cell_of_row wr _ 2 _ _ _ hx]; rfl
    clear hx hca ho hb
    by_cases hlt : k < s.calls.length
    · obtain ⟨g, o, A', c', hC, hgl, e0, e1, hra⟩ := (HRC.out.below HB.out).get k _ (List.getElem?_eq_getElem hlt)
      have hx8 := H8.out _ (List.getElem_mem hlt)
      obtain ⟨x, hx⟩ : ∃ x, s.calls[k] = x := ⟨_, rfl⟩
      rw [hx] at e0 e1 hra hx8
      have HXx := Lib.hid hx
      have HRa := Lib.hid hra
      clear hx hra
      rw [hC]
      go_upto_region 7 with fail
      clear e0 e1 r2
      obtain ⟨W6, hW6⟩ : ∃ W6 : World, W6 = wr.alloc (.cells #[.int .i64 x.callee, .slice A' x.args.length c'] 68) := ⟨_, rfl⟩
      have hb6 : Below wr.heap.size wr W6 := by rw [hW6]; exact (Below.refl _ _).alloc (Nat.le_refl _) _
      have HB6 := Lib.hid hb6
      have hz6 : wr.heap.size < W6.heap.size := by rw [hW6]; simp
      have k0 : W6.cell? ⟨wr.heap.size, 0, none⟩ = some (.int .i64 x.callee) := by rw [hW6]; simp [go_sem]
      have k1 : W6.cell? ⟨wr.heap.size, 1, none⟩ = some (.slice A' x.args.length c') := by rw [hW6]; simp [go_sem]
      have hX6 : W6.heap[w.heap.size]? = some (.cells (resC s k C cc M mc) 35 (0, 0)) := (hb6.block _ hRl).trans HX.out
      have HX6 := Lib.hid hX6
      have r2 : W6.cell? ⟨w.heap.size, 2, none⟩ = some (.slice C k cc) := by rw [cell_of_row W6 _ 2 _ _ _ hX6]; rfl
      rw [← hW6]
      clear hW6 hb6 hX6
      refine wp_region_gated (fun w' => w'.cell? ⟨w.heap.size, 2, none⟩ = some (.slice C k cc) ∧ w'.cell? ⟨wr.heap.size, 0, none⟩ = some (.int .i64 x.callee) ∧ w'.cell? ⟨wr.heap.size, 1, none⟩ = some (.slice A' x.args.length c')) 11 (by kernel_rfl) ⟨r2, k0, k1⟩ (fun hHeld => ?_)
      refine wpAnyG_take 0 (v := ?_) rfl (by kernel_rfl) (by kernel_rfl) (by kernel_rfl) (by kernel_rfl) (by kernel_rfl) (by kernel_rfl) (fun _ _ _ h => h) (Or.inl ⟨by rfl, ?_⟩) (by assumption) ?_
      rotate_left
      · (intro w hSw; (try dsimp only at hSw); go_simp; (try with_reducible rfl))
      try simp only [Act.put, List.getElem_toArray, List.getElem_cons_zero, List.getElem_cons_succ, List.setIfInBounds_toArray, List.set_cons_zero, List.set_cons_succ]
      refine wpAnyG_take 1 (v := ?_) rfl (by kernel_rfl) (by kernel_rfl) (by kernel_rfl) (by kernel_rfl) (by kernel_rfl) (by kernel_rfl) (fun _ _ _ h => h) (Or.inl ⟨by rfl, ?_⟩) (by assumption) ?_
      rotate_left
      · (intro w hSw; (try dsimp only at hSw); go_simp; (try with_reducible rfl))
      try simp only [Act.put, List.getElem_toArray, List.getElem_cons_zero, List.getElem_cons_succ, List.setIfInBounds_toArray, List.set_cons_zero, List.set_cons_succ]
      refine wpAnyG_take 2 (v := ?_) rfl (by kernel_rfl) (by kernel_rfl) (by kernel_rfl) (by kernel_rfl) (by kernel_rfl) (by kernel_rfl) (fun _ _ _ h => h) (Or.inl ⟨by rfl, ?_⟩) (by assumption) ?_
      rotate_left
      · (intro w hSw; (try dsimp only at hSw); go_simp; (try with_reducible rfl))
      try simp only [Act.put, List.getElem_toArray, List.getElem_cons_zero, List.getElem_cons_succ, List.setIfInBounds_toArray, List.set_cons_zero, List.set_cons_succ]
      refine wpAnyG_take 3 (v := ?_) rfl (by kernel_rfl) (by kernel_rfl) (by kernel_rfl) (by kernel_rfl) (by kernel_rfl) (by kernel_rfl) (fun _ _ _ h => h) (Or.inl ⟨by rfl, ?_⟩) (by assumption) ?_
      rotate_left
      · (intro w hSw; (try dsimp only at hSw); go_simp; (try with_reducible rfl))
      try simp only [Act.put, List.getElem_toArray, List.getElem_cons_zero, List.getElem_cons_succ, List.setIfInBounds_toArray, List.set_cons_zero, List.set_cons_succ]
      refine wpAnyG_take 4 (v := ?_) rfl (by kernel_rfl) (by kernel_rfl) (by kernel_rfl) (by kernel_rfl) (by kernel_rfl) (by kernel_rfl) (fun _ _ _ h => h) (Or.inl ⟨by rfl, ?_⟩) (by assumption) ?_
      rotate_left
      · (intro w hSw; (try dsimp only at hSw); go_simp; (try with_reducible rfl))
      try simp only [Act.put, List.getElem_toArray, List.getElem_cons_zero, List.getElem_cons_succ, List.setIfInBounds_toArray, List.set_cons_zero, List.set_cons_succ]
      refine wpAnyG_take 5 (v := ?_) rfl (by kernel_rfl) (by kernel_rfl) (by kernel_rfl) (by kernel_rfl) (by kernel_rfl) (by kernel_rfl) (fun _ _ _ h => h) (Or.inl ⟨by rfl, ?_⟩) (by assumption) ?_
      rotate_left
      · (intro w hSw; (try dsimp only at hSw); go_simp; (try with_reducible rfl))
      try simp only [Act.put, List.getElem_toArray, List.getElem_cons_zero, List.getElem_cons_succ, List.setIfInBounds_toArray, List.set_cons_zero, List.set_cons_succ]
      refine wpAnyG_one 6 (by kernel_rfl) rfl (fun K hK => ?_)
      go_simp
      go_at_call 28
      refine (clone_any _ A' c' x.args (HRa.out.below (HB6.out.drew)) (by omega)).mono ?_
      rintro e w7 ⟨v7, rfl, hb7, hown7⟩
      have hb7 : Below W6.heap.size W6 w7 := (Below.refl W6.heap.size W6).drew.trans hb7
      obtain ⟨A7, c7, rfl, hq7⟩ := RIQ.of_own hown7 (by omega)
      have HQ7 : Hid (RIQ (fun b => W6.heap.size ≤ b) w7 A7 c7 x.args) := Lib.hid hq7
      have HB7 := Lib.hid hb7
      have hl6 : w.heap.size < W6.heap.size := by omega
      have m2 := (hb7.cell (p := ⟨w.heap.size, 2, none⟩) hl6).trans r2
      have m0 := (hb7.cell (p := ⟨wr.heap.size, 0, none⟩) hz6).trans k0
      have m1 := (hb7.cell (p := ⟨wr.heap.size, 1, none⟩) hz6).trans k1
      clear hb7 hown7 hq7
      go_wp2_with fail
      refine hK.out _ _ (⟨m2, m0, m1⟩) (fun hHeld => ?_)
      clear hK K
      try simp only [Act.put, List.getElem_toArray, List.getElem_cons_zero, List.getElem_cons_succ, List.setIfInBounds_toArray, List.set_cons_zero, List.set_cons_succ]
      clear r2 k0 k1
      refine wpAnyG_one 7 (by kernel_rfl) rfl (fun K hK => ?_)
      go_simp
      refine hK.out _ _ (⟨m2, m0, m1⟩) (fun hHeld => ?_)
      clear hK K
      try simp only [Act.put, List.getElem_toArray, List.getElem_cons_zero, List.getElem_cons_succ, List.setIfInBounds_toArray, List.set_cons_zero, List.set_cons_succ]
      have hb8 : Below w7.heap.size w7 (w7.alloc (.cells #[.int .i64 x.callee, .slice A7 x.args.length c7] 68)) := (Below.refl _ _).alloc (Nat.le_refl _) _
      have HB8 := Lib.hid hb8
      have hl7 : W6.heap.size ≤ w7.heap.size := HB7.out.size
      have n2 := (hb8.cell (p := ⟨w.heap.size, 2, none⟩) (show w.heap.size < w7.heap.size by omega)).trans m2
      have n0 := (hb8.cell (p := ⟨wr.heap.size, 0, none⟩) (show wr.heap.size < w7.heap.size by omega)).trans m0
      have n1 := (hb8.cell (p := ⟨wr.heap.size, 1, none⟩) (show wr.heap.size < w7.heap.size by omega)).trans m1
      refine wpAnyG_one 8 (by kernel_rfl) rfl (fun K hK => ?_)
      go_simp
      refine hK.out _ _ (⟨n2, n0, n1⟩) (fun hHeld => ?_)
      clear hK K
      try simp only [Act.put, List.getElem_toArray, List.getElem_cons_zero, List.getElem_cons_succ, List.setIfInBounds_toArray, List.set_cons_zero, List.set_cons_succ]
      clear m2 m0 m1
      have hbig : Below wr.heap.size wr (w7.alloc (.cells #[.int .i64 x.callee, .slice A7 x.args.length c7] 68)) := (HB6.out.trans (HB7.out.mono (by omega))).trans (hb8.mono (by omega))
      have HBig := Lib.hid hbig
      obtain ⟨vs, hd, hoc, hcc, hcq⟩ := HCA.out
      have hkl : (s.calls.take k).length = k := by simp; omega
      have HKL := Lib.hid hkl
      rw [hkl] at hoc
      have HCC := Lib.hid hcc
      have HCQ := Lib.hid (fun j y hj => (hcq j y hj).keep (.below hbig))
      have HOC := Lib.hid (ownsRow_below hoc hbig)
      have hC1 : ∀ b, (Value.slice C 0 0).ownBlock = some b → b < wr.heap.size := fun b hb => (hoc.lt b (by rw [own_blk]; exact hb)).2
      have hC0 : ∀ b, (Value.slice C 0 0).ownBlock = some b → w0.heap.size ≤ b := fun b hb => (hoc.lt b (by rw [own_blk]; exact hb)).1
      clear hoc hcc hcq hkl hb8 hbig
      refine wpAnyG_one 9 (by kernel_rfl) rfl (fun K hK => ?_)
      refine wanted_go rfl ?_
      refine wp_append_raw_at _ _ 33 rfl w0.heap.size 68 Try.underlying33 zCall 2 32 Try.infoCall rfl (by decide) (.slice C k cc) k vs rfl HOC.out w7.heap.size [.int .i64 x.callee, .slice A7 x.args.length c7] rfl rfl (fun j u hj => ?_) (by intro u hu; simp at hu; rcases hu with rfl | rfl <;> rfl) (by unfold maxLen; omega) (by omega) (by have := Hz0.out; simp; omega) ?_
      · match j, hj with
        | 0, hj => simp at hj; subst hj; simp [go_sem]
        | 1, hj => simp at hj; subst hj; simp [go_sem]
      intro v9 w9 hown9 hg9 hloc9
      obtain ⟨C9, cc9, rfl, _⟩ := own_slice hown9
      have hpush := fun (v : Value) => callsPush (R := w.heap.size) (j := 2) (cc := cc) vs hd HCC.out HCQ.out x A7 c7 ((HQ7.out.keep (.below HB8.out)).imp (fun b _ hb => ⟨by omega, fun e => by have := hC1 b e; omega⟩)) C9 cc9 (by rw [HKL.out]; simpa using hown9) (by rw [own_blk] at hg9 ⊢; exact hg9) (by rw [HKL.out]; exact hloc9) (by omega) v
      have HPush := Lib.hid hpush
      rw [own_blk] at hg9
      have hX9 : w9.heap[w.heap.size]? = some (.cells (resC s k C cc M mc) 35 (0, 0)) := ((hg9.block w.heap.size (by simp; omega) (fun e => by have := hC0 _ e.symm; have := Hz0.out; omega)).trans (HBig.out.block _ hRl)).trans HX.out
      have HX9 := Lib.hid hX9
      have hneN : some wr.heap.size ≠ (Value.slice C 0 0).ownBlock := fun e => by have := hC1 _ e.symm; omega
      have o2 : w9.cell? ⟨w.heap.size, 2, none⟩ = some (.slice C k cc) := by rw [cell_of_row w9 _ 2 _ _ _ hX9]; rfl
      have z2 := frozen_of_row w9 w.heap.size 2 _ _ hX9
      have o0 := (World.cell?_of_block (a := ⟨wr.heap.size, 0, none⟩) (hg9.block wr.heap.size (by simp; omega) hneN)).trans n0
      have o1 := (World.cell?_of_block (a := ⟨wr.heap.size, 1, none⟩) (hg9.block wr.heap.size (by simp; omega) hneN)).trans n1
      have HO9 : Hid (∀ v, (w9.setCell ⟨w.heap.size, 2, none⟩ v).ownsRow w0.heap.size 3 1 (.slice M s.mem.length mc) s.mem.length (s.mem.map (Value.int .i64))) := Lib.hid (fun v => own_keep HO.out (fun b hb => by
        have hbl := HO.out.lt b hb
        have hne : b ≠ w.heap.size := by have := Hz0.out; omega
        have hneC : some b ≠ (Value.slice C 0 0).ownBlock := fun e => by
          obtain ⟨cs1, h1⟩ := own_typed HOC.out (g := b) (by rw [own_blk]; exact e.symm)
          obtain ⟨cs2, h2⟩ := own_typed (ownsRow_below HO.out HBig.out) hb
          rw [h1] at h2; simp at h2
        rw [Below.heap_setCell _ _ _ _ hne, hg9.block b (by simp; omega) hneC]
        exact HBig.out.block b hbl.2))
      have HB9 : Hid (Below w.heap.size w w9) := Lib.hid ((HB.out.trans (HBig.out.mono (by omega))).grown hg9 (by simp; omega) (fun b hb => by have := hC0 b hb; have := Hz0.out; omega))
      clear hpush hX9 hneN hown9 hg9 hloc9 hC0 hC1
      refine hK.out _ _ (⟨o2, o0, o1⟩) (fun hHeld => ?_)
      clear hK K
      try simp only [Act.put, List.getElem_toArray, List.getElem_cons_zero, List.getElem_cons_succ, List.setIfInBounds_toArray, List.set_cons_zero, List.set_cons_succ]
      clear n0 n1 n2
      refine wpAnyG_one 10 (by kernel_rfl) rfl (fun K hK => ?_)
      go_simp
      refine hK.out _ _ (⟨o2, o0, o1⟩) (fun hHeld => ?_)
      clear hK K
      try simp only [Act.put, List.getElem_toArray, List.getElem_cons_zero, List.getElem_cons_succ, List.setIfInBounds_toArray, List.set_cons_zero, List.set_cons_succ]
      refine wpAnyG_past 11 (by kernel_rfl) rfl (by kernel_rfl) (fun K hK => ?_)
      go_simp
      refine hK.out _ _ ?_
      clear hK K
      try simp only [Act.put, List.getElem_toArray, List.getElem_cons_zero, List.getElem_cons_succ, List.setIfInBounds_toArray, List.set_cons_zero, List.set_cons_succ]
      refine wpAnyG_done (by kernel_rfl) ?_ _
      go_wp2_with fail
      go_roundw
      case rel =>
        refine ⟨k + 1, C9, cc9, by omega, by go_num, ?_, ?_, HO9.out _, HB9.out.setCell (Nat.le_refl _) _⟩
        · have := heap_setCell_same w9 w.heap.size 2 _ 35 (.slice C9 (k + 1) cc9) HX9.out
          rw [this]; simp [resC]
        · have h9 := HPush.out (.slice C9 (k + 1) cc9)
          rw [take_snoc_eq _ k hlt, HXx.out]
          exact h9
      case measure => simp [intOf]; omega
    · have hkl : k = s.calls.length := by omega
      subst hkl
      have q0 : wr.cell? ⟨w.heap.size, 0, none⟩ = some (.int .i64 s.fin) := by rw [cell_of_row wr _ 0 _ _ _ HX.out]; rfl
      have q1 : wr.cell? ⟨w.heap.size, 1, none⟩ = some (.int .i64 s.value) := by rw [cell_of_row wr _ 1 _ _ _ HX.out]; rfl
      have q3 : wr.cell? ⟨w.heap.size, 3, none⟩ = some (.slice M s.mem.length mc) := by rw [cell_of_row wr _ 3 _ _ _ HX.out]; rfl
      have q4 : wr.cell? ⟨w.heap.size, 4, none⟩ = some (.int .i64 s.steps) := by rw [cell_of_row wr _ 4 _ _ _ HX.out]; rfl
      have z0 := frozen_of_row wr w.heap.size 0 _ _ HX.out
      have z1 := frozen_of_row wr w.heap.size 1 _ _ HX.out
      have z2 := frozen_of_row wr w.heap.size 2 _ _ HX.out
      have z3 := frozen_of_row wr w.heap.size 3 _ _ HX.out
      have z4 := frozen_of_row wr w.heap.size 4 _ _ HX.out
      have ho : ∀ b, b ≠ w.heap.size → (((((wr.setCell ⟨w.heap.size, 0, none⟩ (.int .i64 s.fin)).setCell ⟨w.heap.size, 1, none⟩ (.int .i64 s.value)).setCell ⟨w.heap.size, 2, none⟩ (.slice C s.calls.length cc)).setCell ⟨w.heap.size, 3, none⟩ (.slice M s.mem.length mc)).setCell ⟨w.heap.size, 4, none⟩ (.int .i64 s.steps)).heap[b]? = wr.heap[b]? := fun b hne => by
        rw [Below.heap_setCell _ _ _ _ hne, Below.heap_setCell _ _ _ _ hne, Below.heap_setCell _ _ _ _ hne, Below.heap_setCell _ _ _ _ hne, Below.heap_setCell _ _ _ _ hne]
      have Ho := Lib.hid ho
      clear ho
      go_wp2_with fail
      refine bodyPost_ret (v := resV s C cc M mc) (by simp [results, Try.results16, go_sem, q0, q1, r2, q3, q4, resV]) rfl ?_
      have hca := HCA.out
      rw [List.take_length] at hca
      have hRb : ∀ b, w0.heap.size ≤ b → b ≠ w.heap.size := fun b hb => by have := Hz0.out; omega
      have hca9 := hca.keep (w' := (((((wr.setCell ⟨w.heap.size, 0, none⟩ (.int .i64 s.fin)).setCell ⟨w.heap.size, 1, none⟩ (.int .i64 s.value)).setCell ⟨w.heap.size, 2, none⟩ (.slice C s.calls.length cc)).setCell ⟨w.heap.size, 3, none⟩ (.slice M s.mem.length mc)).setCell ⟨w.heap.size, 4, none⟩ (.int .i64 s.steps))) ⟨by simp [World.setCell], fun b hb _ => Ho.out b (by omega)⟩ (fun b hb => by
        obtain ⟨vs, hd, h1, _⟩ := hca
        exact Ho.out b (hRb b (h1.lt b hb).1))
      have ho9 := own_keep (w' := (((((wr.setCell ⟨w.heap.size, 0, none⟩ (.int .i64 s.fin)).setCell ⟨w.heap.size, 1, none⟩ (.int .i64 s.value)).setCell ⟨w.heap.size, 2, none⟩ (.slice C s.calls.length cc)).setCell ⟨w.heap.size, 3, none⟩ (.slice M s.mem.length mc)).setCell ⟨w.heap.size, 4, none⟩ (.int .i64 s.steps))) HO.out (fun b hb => Ho.out b (hRb b (HO.out.lt b hb).1))
      obtain ⟨A9, c9, e9, hr9⟩ := RIQ.of_own ho9 (by omega)
      obtain ⟨rfl, rfl⟩ : M = A9 ∧ mc = c9 := by injection e9 with h1 _ h2; exact ⟨h1, h2⟩
      exact ⟨C, cc, M, mc, rfl, ((((HB.out.setCell (Nat.le_refl _) _).setCell (Nat.le_refl _) _).setCell (Nat.le_refl _) _).setCell (Nat.le_refl _) _).setCell (Nat.le_refl _) _, hr9.imp (fun b _ h => by have := Hz0.out; show w.heap.size ≤ b; omega), hca9.rq (fun b h => by have := Hz0.out; omega) (fun b h => by have := h.1; omega)⟩
end Go.Proofs.Ytnbmmfkkjceehaa
