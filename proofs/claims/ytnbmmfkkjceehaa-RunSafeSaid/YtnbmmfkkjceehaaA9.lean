/- What right instructions read, define, need; contract: past. -/
import Derived.Test.YtnbmmfkkjceehaaA8
import Derived.Deep.RegionWith
import Derived.Deep.RegionHeld3
import Derived.Deep.MidRow
namespace Go.Proofs.Ytnbmmfkkjceehaa
set_option linter.unusedSimpArgs false
set_option linter.unusedVariables false
open Go.RowKit

theorem noneB_iff (xs : List Int) : noneB xs = true ↔ ∀ x ∈ xs, x = 0 := by
  simp [noneB]
theorem varB_iff (n : Int) : varB n = true ↔ 1 ≤ n ∧ n ≤ 200 := by simp [varB]
theorem fitsB_var {b : Bool} {n : Int} (h : fitsB b n = true) (hn : n ≠ 0) : varB n = true := by
  unfold fitsB at h
  split at h
  · exact h
  · simp at h; exact absurd h hn
theorem isInsB_parts (i : InsD) (h : isInsB i = true) : (i.a ≠ 0 → varB i.a = true) ∧ (i.b ≠ 0 → varB i.b = true) ∧ (i.dst ≠ 0 → varB i.dst = true) ∧ (∀ x ∈ i.args, varB x = true) ∧ i.args.length ≤ 8 := by
  unfold isInsB isInsS at h
  generalize shapeOf i.op = s at h
  split at h
  · cases h
  · split at h
    · simp only [Bool.and_eq_true, decide_eq_true_eq, noneB_iff] at h
      obtain ⟨⟨⟨⟨h1, h2⟩, h3⟩, h4⟩, h5⟩ := h
      refine ⟨fun hn => absurd (h1 _ (by simp)) hn, fun hn => absurd (h1 _ (by simp)) hn, fun hn => fitsB_var h3 hn, ?_, h4⟩
      intro x hx
      simp only [Bool.not_eq_true', List.any_eq_false, Bool.not_eq_true] at h5
      have := h5 x hx
      simpa using this
    · split at h
      · cases h
      · simp only [Bool.and_eq_true, beq_iff_eq] at h
        obtain ⟨⟨⟨⟨h1, h2⟩, h3⟩, h4⟩, h5⟩ := h
        have hargs : i.args = [] := List.length_eq_zero_iff.1 h2
        exact ⟨fun hn => fitsB_var h4 hn, fun hn => fitsB_var h5 hn, fun hn => fitsB_var h3 hn, by rw [hargs]; simp, by omega⟩
theorem readsL_var (i : InsD) : ∀ x ∈ readsL i, varB x = true := by
  intro x hx
  unfold readsL at hx
  split at hx
  · rename_i h
    obtain ⟨ha, hb, _, hargs, _⟩ := isInsB_parts i h
    simp only [List.mem_append] at hx
    rcases hx with (hx | hx) | hx
    · split at hx
      · cases hx
      · simp at hx; rw [hx]; exact ha ‹_›
    · split at hx
      · cases hx
      · simp at hx; rw [hx]; exact hb ‹_›
    · exact hargs x hx
  · cases hx
theorem readsL_in (i : InsD) : inSet (readsL i) := fun x hx => by have := (varB_iff x).1 (readsL_var i x hx); omega
theorem readsL_len (i : InsD) : (readsL i).length ≤ 10 := by
  unfold readsL
  split
  · rename_i h
    have := (isInsB_parts i h).2.2.2.2
    simp only [List.length_append]
    split <;> split <;> simp <;> omega
  · simp
theorem definesI_in (i : InsD) : 0 ≤ definesI i ∧ definesI i ≤ 200 := by
  unfold definesI
  split
  · rename_i h
    have hd := (isInsB_parts i h).2.2.1
    by_cases e : i.dst = 0
    · omega
    · have := (varB_iff _).1 (hd e); omega
  · omega
theorem isTermB_a (t : TermD) (h : isTermB t = true) : t.a ≠ 0 → varB t.a = true := by
  intro hn
  unfold isTermB at h
  split at h
  · rw [noneB_iff] at h; exact absurd (h _ (by simp)) hn
  · split at h
    · exact h
    · split at h
      · simp only [Bool.and_eq_true] at h
        exact fitsB_var h.1 hn
      · simp only [Bool.and_eq_true, noneB_iff] at h
        exact absurd (h.2 _ (by simp)) hn
theorem needsL_var (t : TermD) : ∀ x ∈ needsL t, varB x = true := by
  intro x hx
  unfold needsL at hx
  split at hx
  · rename_i h
    simp only [Bool.and_eq_true, bne_iff_ne] at h
    simp at hx
    rw [hx]; exact isTermB_a t h.1 h.2
  · cases hx
theorem needsL_in (t : TermD) : inSet (needsL t) := fun x hx => by have := (varB_iff x).1 (needsL_var t x hx); omega
theorem needsL_len (t : TermD) : (needsL t).length ≤ 1 := by unfold needsL; split <;> simp

def pastRun : SetF → List InsD → Option SetF
  | s, [] => some s
  | s, i :: l => if hasB s (readsL i) then pastRun (updF s (definesI i).toNat true) l else none
def pastB (s : SetF) (x : BlkD) : Bool := match pastRun s x.ins with
  | none => false
  | some t => hasB t (needsL x.term)
theorem pastRun_append (s : SetF) (l m : List InsD) : pastRun s (l ++ m) = (pastRun s l).bind fun t => pastRun t m := by
  induction l generalizing s with
  | nil => rfl
  | cons i l ih =>
    simp only [List.cons_append, pastRun]
    split
    · exact ih _
    · rfl
theorem pastRun_take {s t : SetF} {l : List InsD} {k : Nat} (hk : k < l.length) (h : pastRun s (l.take k) = some t) : pastRun s (l.take (k + 1)) = if hasB t (readsL l[k]) then some (updF t (definesI l[k]).toNat true) else none := by
  rw [take_snoc_eq l k hk, pastRun_append, h]
  simp only [Option.bind_some, pastRun]
theorem pastRun_none {s : SetF} {l : List InsD} {k : Nat} (h : pastRun s (l.take k) = none) : pastRun s l = none := by
  rw [← List.take_append_drop k l, pastRun_append, h]; rfl
def RetPast (s : SetF) (x : BlkD) (w : World) (e : Ending) (w' : World) : Prop := ∃ t, e = .returned (.tuple #[.agg (setC t), .bool (pastB s x)]) ∧ Below w.heap.size w w'

theorem results_mid_tmp {P : Program} {fn : Func} {p q : Tmp} {ty : TypeId} (h : fn.results = #[.cell p ty, .tmp q]) (tmps : Array Value) (w : World) (g o : Nat) {cs : List Value} {e : TypeId}
    (hp : tmps.getD p undef = .pointer (some ⟨g, o, none⟩)) (hg : w.rangeAt g o cs) (hu : P.underlying ty = some (.array 201 e)) (hi : (P.info? ty).map (·.size) = some cs.length) :
    (results fn tmps).run P w = .ok (.tuple #[.agg cs.toArray, tmps.getD q undef]) w := by
  have hp' : tmps[p]?.getD undef = .pointer (some ⟨g, o, none⟩) := by simpa using hp
  simp [results, h, hp', asAddr, run_loadVar_mid w g o ty cs _ hg hu rfl hi]
theorem results_set_tmp {P : Program} {fn : Func} {p q : Tmp} {ty : TypeId} (h : fn.results = #[.cell p ty, .tmp q]) (tmps : Array Value) (w : World) (g : Nat) {t : TypeId} (s : SetF) {e : TypeId}
    (hp : tmps.getD p undef = .pointer (some ⟨g, 0, none⟩)) (hg : SetAt w g t s) (hu : P.underlying ty = some (.array 201 e)) (hi : (P.info? ty).map (·.size) = some 201) :
    (results fn tmps).run P w = .ok (.tuple #[.agg (setC s), tmps.getD q undef]) w := by
  have hp' : tmps[p]?.getD undef = .pointer (some ⟨g, 0, none⟩) := by simpa using hp
  simp [results, h, hp', asAddr, run_loadVar_row w g t ty (setC s) (0, 0) _ hg hu rfl (by rw [setC_size]; exact hi)]

theorem pastS_drew {w0 wr : World} {h : Nat} {cs : List Value} {t : TermD} (hS : wr.rangeAt h 0 cs ∧ wr.there (h + 1 + 1) 0 201 ∧ wr.cell? ⟨h + 1, 1, none⟩ = some (.int .i64 t.kind) ∧ wr.cell? ⟨h + 1, 2, none⟩ = some (.int .i64 t.a) ∧ wr.cell? ⟨h + 1, 3, none⟩ = some (.int .i64 t.t0) ∧ wr.cell? ⟨h + 1, 4, none⟩ = some (.int .i64 t.t1) ∧ Below h w0 wr) : wr.drew.rangeAt h 0 cs ∧ wr.drew.there (h + 1 + 1) 0 201 ∧ wr.drew.cell? ⟨h + 1, 1, none⟩ = some (.int .i64 t.kind) ∧ wr.drew.cell? ⟨h + 1, 2, none⟩ = some (.int .i64 t.a) ∧ wr.drew.cell? ⟨h + 1, 3, none⟩ = some (.int .i64 t.t0) ∧ wr.drew.cell? ⟨h + 1, 4, none⟩ = some (.int .i64 t.t1) ∧ Below h w0 wr.drew :=
  ⟨hS.1, hS.2.1, hS.2.2.1, hS.2.2.2.1, hS.2.2.2.2.1, hS.2.2.2.2.2.1, hS.2.2.2.2.2.2.drew⟩
theorem pastS_below {w0 wr w1 : World} {h : Nat} {cs : List Value} {t : TermD} (hb : Below wr.heap.size wr w1) (hS : wr.rangeAt h 0 cs ∧ wr.there (h + 1 + 1) 0 201 ∧ wr.cell? ⟨h + 1, 1, none⟩ = some (.int .i64 t.kind) ∧ wr.cell? ⟨h + 1, 2, none⟩ = some (.int .i64 t.a) ∧ wr.cell? ⟨h + 1, 3, none⟩ = some (.int .i64 t.t0) ∧ wr.cell? ⟨h + 1, 4, none⟩ = some (.int .i64 t.t1) ∧ Below h w0 wr) : w1.rangeAt h 0 cs ∧ w1.there (h + 1 + 1) 0 201 ∧ w1.cell? ⟨h + 1, 1, none⟩ = some (.int .i64 t.kind) ∧ w1.cell? ⟨h + 1, 2, none⟩ = some (.int .i64 t.a) ∧ w1.cell? ⟨h + 1, 3, none⟩ = some (.int .i64 t.t0) ∧ w1.cell? ⟨h + 1, 4, none⟩ = some (.int .i64 t.t1) ∧ Below h w0 w1 := by
  obtain ⟨h1, h2, h3, h4, h5, h6, h7⟩ := hS
  have l2 := World.block_lt_of_cell? wr _ h3
  have l3 : h + 1 + 1 < wr.heap.size := by
    have := (h2 0 (by omega)).1
    obtain ⟨u, hu⟩ := Option.isSome_iff_exists.1 this
    exact World.block_lt_of_cell? wr _ hu
  have k : ∀ b o, b < wr.heap.size → w1.cell? ⟨b, o, none⟩ = wr.cell? ⟨b, o, none⟩ := fun b o hlt => hb.cell (p := ⟨b, o, none⟩) hlt
  simp only at l2
  exact ⟨rangeAt_below h1 hb (by omega), there_below h2 hb l3, (k _ _ l2).trans h3, (k _ _ l2).trans h4, (k _ _ l2).trans h5, (k _ _ l2).trans h6, h7.trans (hb.mono (by omega))⟩
theorem pastS_store {w0 wr : World} {h : Nat} {cs : List Value} {t : TermD} (hS : wr.rangeAt h 0 cs ∧ wr.there (h + 1 + 1) 0 201 ∧ wr.cell? ⟨h + 1, 1, none⟩ = some (.int .i64 t.kind) ∧ wr.cell? ⟨h + 1, 2, none⟩ = some (.int .i64 t.a) ∧ wr.cell? ⟨h + 1, 3, none⟩ = some (.int .i64 t.t0) ∧ wr.cell? ⟨h + 1, 4, none⟩ = some (.int .i64 t.t1) ∧ Below h w0 wr) (hl : cs.length = 201) : (wr.setCells (h + 1 + 1) 0 cs).rangeAt h 0 cs ∧ (wr.setCells (h + 1 + 1) 0 cs).there (h + 1 + 1) 0 201 ∧ (wr.setCells (h + 1 + 1) 0 cs).cell? ⟨h + 1, 1, none⟩ = some (.int .i64 t.kind) ∧ (wr.setCells (h + 1 + 1) 0 cs).cell? ⟨h + 1, 2, none⟩ = some (.int .i64 t.a) ∧ (wr.setCells (h + 1 + 1) 0 cs).cell? ⟨h + 1, 3, none⟩ = some (.int .i64 t.t0) ∧ (wr.setCells (h + 1 + 1) 0 cs).cell? ⟨h + 1, 4, none⟩ = some (.int .i64 t.t1) ∧ Below h w0 (wr.setCells (h + 1 + 1) 0 cs) := by
  obtain ⟨h1, h2, h3, h4, h5, h6, h7⟩ := hS
  have k : ∀ o, (wr.setCells (h + 1 + 1) 0 cs).cell? ⟨h + 1, o, none⟩ = wr.cell? ⟨h + 1, o, none⟩ := fun o => World.cell?_setCells_out _ _ _ _ _ (fun e => by simp at e)
  exact ⟨World.rangeAt_setCells_apart h1 _ _ _ (.inl (by omega)), World.there_setCells h2 _ _ _, (k _).trans h3, (k _).trans h4, (k _).trans h5, (k _).trans h6, below_setCells _ (by omega) _ _ _ h7⟩

set_option maxRecDepth 100000 in
set_option maxHeartbeats 8000000 in
theorem past_any (w : World) (s : SetF) (A : Option Addr) (c : Nat) (x : BlkD) (h : RIns w A c x.ins) (hbig : ∀ i ∈ x.ins, i.args.length ≤ 8) : Calls Try.prog 55 #[.agg (setC s), blkV A c x] w (RetPast s x w) := by
  have hl := h.1
  have H := Lib.hid h
  have HG := Lib.hid hbig
  clear h hbig
  simp only [blkV]
  go_enter Try.func55, Try.ntmps55
  go_wp2_with (with_reducible refine wpList_alloc_set rfl 106 rfl Try.setZero ?_)
  go_loopw [11] (fun i wr => ∃ (k : Nat) (t : SetF), k ≤ x.ins.length ∧ i = .int .i64 k ∧ Hid (pastRun s (x.ins.take k) = some t) ∧ SetAt wr w.heap.size 106 t ∧ SetAt wr (w.heap.size + 1 + 1) 106 (fun _ => false) ∧ wr.heap[w.heap.size + 1]? = some (.cells #[.slice A x.ins.length c, .int .i64 x.term.kind, .int .i64 x.term.a, .int .i64 x.term.t0, .int .i64 x.term.t1] 55 (0, 0)) ∧ Below w.heap.size w wr) (fun i _ => x.ins.length - (intOf i).toNat)
  case atStart =>
    refine ⟨0, s, Nat.zero_le _, rfl, Lib.hid rfl, ?_, ?_, ?_, by go_grown⟩
    · exact ((SetAt.new w 106 s).alloc _).alloc _
    · simpa using SetAt.new ((w.alloc _).alloc _) 106 (fun _ => false)
    · refine (Below.heap_alloc _ _ _ (by simp)).trans ?_
      simpa using heap_alloc_new (w.alloc (.cells (setC s) 106)) _
  case round =>
    obtain ⟨k, t, hk, rfl, Ht, hs, hz, hbx, hb⟩ := hrel
    have Hs := Lib.hid hs
    have Hz := Lib.hid hz
    have Hbx := Lib.hid hbx
    have HB := Lib.hid hb
    have hlz := hz.lt
    clear hs hz hbx hb
    by_cases hlt : k < x.ins.length
    · obtain ⟨b, o, A', c', hA, hbs, hat⟩ := (H.out.below HB.out).at k hlt
      subst hA
      have h0 := hat.c0
      have h1 := hat.c1
      have h2 := hat.c2
      have h3 := hat.c3
      have h4 := hat.c4
      have h5 := hat.c5
      have h6 := hat.c6
      have h7 := hat.c7
      have HA := Lib.hid hat.args
      clear hat
      have hal := HG.out _ (List.getElem_mem hlt)
      have hrl := readsL_len x.ins[k]
      have hdi := definesI_in x.ins[k]
      obtain ⟨dn, hdn⟩ := Int.eq_ofNat_of_zero_le hdi.1
      have hdn201 : dn < 201 := by omega
      have Hdn := Lib.hid hdn
      clear hdn hdi
      have Hpt := Lib.hid (pastRun_take hlt Ht.out)
      cases hh : hasB t (readsL x.ins[k])
      · have Hh := Lib.hid hh
        clear hh
        have HP : Hid (pastB s x = false) := Lib.hid (by
          have : pastRun s x.ins = none := pastRun_none (k := k + 1) (by rw [Hpt.out, Hh.out]; rfl)
          unfold pastB; rw [this])
        go_wp2_with (first
          | (go_at_call 19; refine (reads_any _ A' c' x.ins[k] (HA.out.below (by go_grown)) (by omega)).mono ?_; rintro e w1 ⟨v, rfl, hb, hown⟩; obtain ⟨A2, c2, rfl, hr⟩ := ownsRow_RI hown (by omega); have hz1 : wr.heap.size < w1.heap.size := Nat.lt_of_lt_of_le (by simp) hb.size; have Hs1 := Lib.hid ((Hs.out.alloc _).below hb (by simp; omega)); have Hz1 := Lib.hid ((Hz.out.alloc _).below hb (by simp; omega)); have HB1 := Lib.hid ((HB.out.alloc HB.out.size _).trans (hb.mono (by simp; have := HB.out.size; omega))); have HR := Lib.hid hr; clear hr hown hb)
          | (go_at_call 61; refine (has_any _ A2 c2 (readsL x.ins[k]) w.heap.size t HR.out (readsL_in _) Hs1.out.in).mono ?_; rintro e w2 ⟨rfl, hb⟩; rw [Hh.out]; have hz2 := hb.size; have Hs2 := Lib.hid (Hs1.out.below hb (by omega)); have Hz2 := Lib.hid (Hz1.out.below hb (by omega)); have HB2 := Lib.hid (HB1.out.trans (hb.mono (by have := HB1.out.size; omega))); clear hb)
          | (with_reducible refine wpList_load_set rfl 106 _ rfl w.heap.size _ rfl _ Hs2.out _ Try.setUnder Try.setSize ?_)
          | (with_reducible refine wpList_store_set rfl 106 _ _ rfl (w.heap.size + 1 + 1) _ _ rfl rfl _ Hz2.out Try.setSize ?_))
        refine bodyPost_ret (v := .tuple #[.agg (setC t), .bool false]) ?_ rfl ⟨t, by rw [HP.out], below_setRow HB2.out _ _ (by omega)⟩
        exact results_set_tmp (q := 5) (p := 4) rfl _ _ (w.heap.size + 1 + 1) t rfl (Hz2.out.row t) Try.setUnder Try.setSize
      · have Hh := Lib.hid hh
        clear hh
        go_wp2_with (first
          | (go_at_call 19; refine (reads_any _ A' c' x.ins[k] (HA.out.below (by go_grown)) (by omega)).mono ?_; rintro e w1 ⟨v, rfl, hb, hown⟩; obtain ⟨A2, c2, rfl, hr⟩ := ownsRow_RI hown (by omega); have hz1 : wr.heap.size < w1.heap.size := Nat.lt_of_lt_of_le (by simp) hb.size; have HW1 := Lib.hid (((Below.refl wr.heap.size wr).alloc (Nat.le_refl _) _).trans (hb.mono (by simp))); obtain ⟨hcx, hfx⟩ := bcell hb; simp only [World.size_alloc] at hcx hfx; have Hs1 := Lib.hid ((Hs.out.alloc _).below hb (by simp; omega)); have Hz1 := Lib.hid ((Hz.out.alloc _).below hb (by simp; omega)); have HB1 := Lib.hid ((HB.out.alloc HB.out.size _).trans (hb.mono (by simp; have := HB.out.size; omega))); have HR := Lib.hid hr; clear hr hown hb)
          | (go_at_call 61; refine (has_any _ A2 c2 (readsL x.ins[k]) w.heap.size t HR.out (readsL_in _) Hs1.out.in).mono ?_; rintro e w2 ⟨rfl, hb⟩; rw [Hh.out]; have hz2 := hb.size; obtain ⟨hcy, hfy⟩ := bcell hb; have HW2 := Lib.hid (HW1.out.trans (hb.mono (by omega))); have Hs2 := Lib.hid (Hs1.out.below hb (by omega)); have Hz2 := Lib.hid (Hz1.out.below hb (by omega)); have HB2 := Lib.hid (HB1.out.trans (hb.mono (by have := HB1.out.size; omega))); clear hb)
          | (go_at_call 20; refine (defines_any _ A' c' x.ins[k] (HA.out.below HW2.out)).mono ?_; rintro e w3 ⟨rfl, hb⟩; rw [Hdn.out]; have hz3 := hb.size; have Hs3 := Lib.hid (Hs2.out.below hb (by omega)); have Hz3 := Lib.hid (Hz2.out.below hb (by omega)); have hfs := Hs3.out.free dn; have hcs := Hs3.out.cell dn hdn201; have HW3 := Lib.hid (HW2.out.trans (hb.mono (by omega))); have HB3 := Lib.hid (HB2.out.trans (hb.mono (by have := HB2.out.size; omega))); clear hb))
        go_roundw
        case rel =>
          refine ⟨k + 1, updF t dn true, by omega, by go_num, Lib.hid (by rw [Hpt.out, Hh.out, Hdn.out]; rfl), Hs3.out.stored dn hdn201 true, Hz3.out.other _ _ (by dsimp only; omega), ?_, HB3.out.setCell (Nat.le_refl _) _⟩
          refine (heap_setCell_other _ _ _ _ (by dsimp only; omega)).trans ?_
          exact (HW3.out.block (w.heap.size + 1) (by omega)).trans Hbx.out
        case measure => simp [intOf]; omega
    · have hkl : k = x.ins.length := by omega
      subst hkl
      have HPR : Hid (pastRun s x.ins = some t) := Lib.hid (by have := Ht.out; rwa [List.take_length] at this)
      have HP : Hid (pastB s x = hasB t (needsL x.term)) := Lib.hid (by unfold pastB; rw [HPR.out])
      clear Ht HPR
      have hn1 := needsL_len x.term
      have g1 : wr.cell? ⟨w.heap.size + 1, 1, none⟩ = some (.int .i64 x.term.kind) := (cell_of_row wr _ 1 _ _ _ Hbx.out).trans rfl
      have g2 : wr.cell? ⟨w.heap.size + 1, 2, none⟩ = some (.int .i64 x.term.a) := (cell_of_row wr _ 2 _ _ _ Hbx.out).trans rfl
      have g3 : wr.cell? ⟨w.heap.size + 1, 3, none⟩ = some (.int .i64 x.term.t0) := (cell_of_row wr _ 3 _ _ _ Hbx.out).trans rfl
      have g4 : wr.cell? ⟨w.heap.size + 1, 4, none⟩ = some (.int .i64 x.term.t1) := (cell_of_row wr _ 4 _ _ _ Hbx.out).trans rfl
      obtain ⟨cs, hcs⟩ : ∃ cs, cs = (setC t).toList := ⟨_, rfl⟩
      have hlen : cs.length = 201 := by rw [hcs, setC_list_len]
      have hone : ∀ v ∈ cs, v.oneCell' = true := by
        rw [hcs]; intro v hv
        exact (Array.all_eq_true_iff_forall_mem.1 (setC_all t)) v (by simpa using hv)
      have hin : wr.rangeAt w.heap.size 0 cs := by rw [hcs]; exact Hs.out.in
      have hth : wr.there (w.heap.size + 1 + 1) 0 201 := fun j hj => by
        rw [Nat.zero_add]
        exact ⟨by rw [Hz.out.cell j hj]; rfl, Hz.out.free j⟩
      have hu := Try.setUnder
      have hi : (Try.prog.info? 106).map (·.size) = some cs.length := by rw [Try.setSize, hlen]
      have Hcs := Lib.hid hcs
      clear hcs
      go_wp2_with fail
      go_region_held3 (fun w' => w'.rangeAt w.heap.size 0 cs ∧ w'.there (w.heap.size + 1 + 1) 0 201 ∧ w'.cell? ⟨w.heap.size + 1, 1, none⟩ = some (.int .i64 x.term.kind) ∧ w'.cell? ⟨w.heap.size + 1, 2, none⟩ = some (.int .i64 x.term.a) ∧ w'.cell? ⟨w.heap.size + 1, 3, none⟩ = some (.int .i64 x.term.t0) ∧ w'.cell? ⟨w.heap.size + 1, 4, none⟩ = some (.int .i64 x.term.t1) ∧ Below w.heap.size w w')
        (first | (exact pastS_drew ⟨hin, hth, g1, g2, g3, g4, HB.out⟩) | (exact pastS_below (by assumption) (by assumption)) | (exact pastS_store (by assumption) hlen) | assumption)
        (first
          | (go_at_call 18; refine (needs_any _ x.term).mono ?_; rintro e w1 ⟨v, rfl, hb1, hown⟩; obtain ⟨A2, c2, rfl, hr⟩ := ownsRow_RI hown (by omega); have HR := Lib.hid hr; clear hr hown)
          | (go_at_call 61; refine (has_any _ A2 c2 (needsL x.term) w.heap.size t HR.out (needsL_in _) (by rw [SetIn, ← Hcs.out]; go_split_ands; assumption)).mono ?_; rintro e w2 ⟨rfl, hb2⟩))
      go_wp2
      have hth2 : w2.there (w.heap.size + 1 + 1) 0 201 := there_below (there_below (w := wr.drew) hth hb1 hlz) hb2 (by have := hb1.size; simp at this; omega)
      have hr3 := World.rangeAt_setCells_same w2 (w.heap.size + 1 + 1) 0 cs (by rw [hlen]; exact hth2)
      have hB3 : Below w.heap.size w (w2.setCells (w.heap.size + 1 + 1) 0 cs) := below_setCells _ (by omega) _ _ _ ((HB.out.drew.trans (hb1.mono (by simp; omega))).trans (hb2.mono (by have := hb1.size; simp at this; omega)))
      refine bodyPost_ret (v := .tuple #[.agg cs.toArray, .bool (hasB t (needsL x.term))]) ?_ rfl ⟨t, by rw [HP.out, Hcs.out], hB3⟩
      exact results_mid_tmp (p := 4) (q := 5) rfl _ _ (w.heap.size + 1 + 1) 0 rfl hr3 hu hi
end Go.Proofs.Ytnbmmfkkjceehaa
