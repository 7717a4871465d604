/- The plain law of RunSafe: at each step of a run of a right function all that is read, or needed, has a value; it goes on by edges; a value changes only where its variable is defined. No program in sight. -/
import Derived.Test.YtnbmmfkkjceehaaR24
namespace Go.Proofs.Ytnbmmfkkjceehaa
set_option linter.unusedSimpArgs false
set_option linter.unusedVariables false
open Go.RowKit

theorem hasB_iff (s : SetF) (xs : List Int) : hasB s xs = true ↔ ∀ v ∈ xs, s v.toNat = true := by
  unfold hasB
  simp [List.any_eq_false]
theorem updF_mono {s t : SetF} (h : ∀ v, s v = true → t v = true) (k : Nat) : ∀ v, updF s k true v = true → updF t k true v = true := by
  intro v hv
  unfold updF at hv ⊢
  split
  · rfl
  · rename_i hne; rw [if_neg hne] at hv; exact h v hv
theorem pastRun_mono (l : List InsD) : ∀ (s t s' : SetF), (∀ v, s v = true → t v = true) → pastRun s l = some s' →
    (∀ j (hj : j < l.length), ∀ v ∈ readsL l[j], outF t (l.take j) v.toNat = true) ∧ (∀ v, s' v = true → outF t l v = true) := by
  induction l with
  | nil =>
    intro s t s' h hs
    simp only [pastRun, Option.some.injEq] at hs
    subst hs
    exact ⟨fun j hj => by simp at hj, fun v hv => h v hv⟩
  | cons i l ih =>
    intro s t s' h hs
    simp only [pastRun] at hs
    split at hs
    · rename_i hh
      have hh' := (hasB_iff _ _).1 hh
      obtain ⟨h1, h2⟩ := ih _ (updF t (definesI i).toNat true) s' (updF_mono h _) hs
      refine ⟨fun j hj v hv => ?_, h2⟩
      cases j with
      | zero => exact h _ (hh' v hv)
      | succ j => exact h1 j (by simpa using hj) v hv
    · cases hs
/-- Block b is reached on some way on which just the variables of H are defined. -/
structure Good (f : FnD) (b : Nat) (H : SetF) : Prop where
  lt : b < f.blocks.length
  bare : ∀ v, H v = false → Bare f v b
theorem Good.past {f : FnD} {b : Nat} {H : SetF} (h : Good f b H) (hv : valuedB f = true) : ∃ s', pastRun (bareF f b) (f.blocks[b]'h.lt).ins = some s' ∧ hasB s' (needsL (f.blocks[b]'h.lt).term) = true ∧ ∀ v, bareF f b v = true → H v = true := by
  unfold valuedB at hv
  rw [decide_eq_true_eq] at hv
  have h1 := hv b h.lt
  unfold pastB at h1
  split at h1
  · cases h1
  · rename_i s' hs
    refine ⟨s', hs, h1, fun v hb => ?_⟩
    cases hH : H v
    · have := h.bare v hH
      unfold bareF at hb
      simp [this] at hb
    · rfl
theorem Good.reads {f : FnD} {b : Nat} {H : SetF} (h : Good f b H) (hv : valuedB f = true) (j : Nat) (hj : j < (f.blocks[b]'h.lt).ins.length) : ∀ v ∈ readsL (f.blocks[b]'h.lt).ins[j], outF H ((f.blocks[b]'h.lt).ins.take j) v.toNat = true := by
  obtain ⟨s', h1, h2, h3⟩ := h.past hv
  exact (pastRun_mono _ _ H s' h3 h1).1 j hj
theorem Good.needs {f : FnD} {b : Nat} {H : SetF} (h : Good f b H) (hv : valuedB f = true) : ∀ v ∈ needsL (f.blocks[b]'h.lt).term, outF H (f.blocks[b]'h.lt).ins v.toNat = true := by
  obtain ⟨s', h1, h2, h3⟩ := h.past hv
  exact fun v hv => (pastRun_mono _ _ H s' h3 h1).2 _ ((hasB_iff _ _).1 h2 v hv)
theorem Good.step {f : FnD} {b : Nat} {H : SetF} (h : Good f b H) (hE : edgesOK f) {t : Int} (ht : t ∈ toL (f.blocks[b]'h.lt).term) : ∃ u : Nat, t = u ∧ 1 ≤ u ∧ Good f u (outF H (f.blocks[b]'h.lt).ins) := by
  obtain ⟨h1, h2⟩ := hE _ (List.getElem_mem h.lt) t ht
  obtain ⟨u, rfl⟩ := Int.eq_ofNat_of_zero_le (show 0 ≤ t by omega)
  refine ⟨u, rfl, by omega, by omega, fun v hv => ?_⟩
  rw [outF_at] at hv
  simp only [Bool.or_eq_false_iff] at hv
  exact .step (h.bare v hv.1) h.lt hv.2 ht
theorem Good.start (f : FnD) (h0 : 0 < f.blocks.length) : Good f 0 (fun v => decide ((v : Int) ∈ f.params)) :=
  ⟨h0, fun v hv => .start (by simpa using hv)⟩

/-! ### the run -/
def atBlk (f : FnD) (s : RunD) : BlkD := f.blocks.getD s.block dBlk
def needOf (f : FnD) (s : RunD) : List Int := if s.ins < (atBlk f s).ins.length then readsL ((atBlk f s).ins.getD s.ins dIns) else needsL (atBlk f s).term
def defOf (f : FnD) (s : RunD) : Int := if s.ins < (atBlk f s).ins.length then definesI ((atBlk f s).ins.getD s.ins dIns) else 0
structure SafeH (f : FnD) (s : RunD) (H : SetF) : Prop where
  good : Good f s.block H
  ins : s.ins ≤ (atBlk f s).ins.length
  vars : ∀ x : Int, 1 ≤ x → outF H ((atBlk f s).ins.take s.ins) x.toNat = true → (s.vars x).isSome = true
def SafeAt (f : FnD) (s : RunD) : Prop := s.fin = 0 → ∃ H, SafeH f s H
theorem atBlk_eq {f : FnD} {s : RunD} (h : s.block < f.blocks.length) : f.blocks[s.block] = atBlk f s := by simp [atBlk, List.getD, h]
theorem whole_ins {f : FnD} (hw : wholeB f = true) {x : BlkD} (hx : x ∈ f.blocks) : isTermB x.term = true ∧ ∀ i ∈ x.ins, isInsB i = true := by
  simp only [wholeB, okBlk, Bool.and_eq_true, List.all_eq_true] at hw
  have h := hw.2 x hx
  refine ⟨h.1, fun i hi => ?_⟩
  have h2 := h.2
  simp only [Bool.not_eq_true', List.any_eq_false] at h2
  have := h2 i hi
  simpa using this
theorem readsL_one {i : InsD} {v : Int} (h : v ∈ readsL i) : 1 ≤ v ∧ v ≤ 200 := (varB_iff v).1 (readsL_var i v h)
theorem needsL_one {t : TermD} {v : Int} (h : v ∈ needsL t) : 1 ≤ v ∧ v ≤ 200 := (varB_iff v).1 (needsL_var t v h)
theorem safe_reads {f : FnD} {s : RunD} (hv : valuedB f = true) (h : SafeAt f s) (h0 : s.fin = 0) : ∀ v ∈ needOf f s, (s.vars v).isSome = true := by
  obtain ⟨H, h1, h2, h3⟩ := h h0
  intro v hm
  unfold needOf at hm
  have e := atBlk_eq h1.lt
  split at hm
  · rename_i hlt
    have hr := h1.reads hv s.ins (by rw [e]; exact hlt)
    have e2 : (atBlk f s).ins.getD s.ins dIns = (f.blocks[s.block]'h1.lt).ins[s.ins]'(by rw [e]; exact hlt) := by simp only [e]; simp [List.getD, hlt]
    rw [e2] at hm
    have := hr v hm
    simp only [e] at this
    exact h3 v (readsL_one hm).1 this
  · rename_i hge
    have hn := h1.needs hv
    rw [e] at hn
    refine h3 v (needsL_one hm).1 ?_
    rw [List.take_of_length_le (by omega)]
    exact hn v hm
theorem insR_vars (s : RunD) (i : InsD) : (insR s i).1.vars = s.vars ∨ (0 < i.dst ∧ (insR s i).1.vars = setV s.vars i.dst (insV0 s i).2.1) := by
  have h := (insV0_same s i).2.2.2.2.2
  unfold insR
  split
  · split
    · rename_i hd; exact .inr ⟨hd, by show setV _ _ _ = _; rw [h]⟩
    · exact .inl h
  · exact .inl h
theorem insR_spot {s : RunD} {i : InsD} {b k : Int} (h : (insR s i).2 = .spot b k) : b = s.block ∧ k = s.ins + 1 ∧ (0 < i.dst → (insR s i).1.vars = setV s.vars i.dst (insV0 s i).2.1) := by
  have h1 := insV0_same s i
  unfold insR at h ⊢
  split at h
  · rename_i hok
    rw [if_pos hok]
    simp only [NextD.spot.injEq] at h
    refine ⟨by rw [← h.1, h1.2.1], by rw [← h.2, h1.1], fun hd => ?_⟩
    rw [if_pos hd]
    show setV _ _ _ = _
    rw [h1.2.2.2.2.2]
  · cases h
/-- A value changes only where its variable is defined. -/
theorem var_only {f : FnD} {s : RunD} (hw : wholeB f = true) (hb : s.block < f.blocks.length) (h0 : s.fin = 0) (v : Int) (hv : 1 ≤ v) (hne : getV (stepR f s).1.vars v ≠ getV s.vars v) : v = defOf f s := by
  rw [stepR_fin h0] at hne
  have hx : f.blocks.getD s.block dBlk ∈ f.blocks := by rw [List.getD_eq_getElem?_getD, List.getElem?_eq_getElem hb]; exact List.getElem_mem hb
  have hg : ∀ (r : RunD) (e : NextD), (goesTo r e).vars = r.vars := fun r e => by cases e <;> rfl
  simp only [hg] at hne
  unfold nextR at hne
  unfold defOf atBlk
  simp only at hne
  split at hne
  · rename_i hlt
    rw [if_pos hlt]
    have hi : (f.blocks.getD s.block dBlk).ins.getD s.ins dIns ∈ (f.blocks.getD s.block dBlk).ins := by
      have e : (f.blocks.getD s.block dBlk).ins.getD s.ins dIns = (f.blocks.getD s.block dBlk).ins[s.ins] := (List.getElem_eq_getD dIns).symm
      rw [e]; exact List.getElem_mem hlt
    have hii := (whole_ins hw hx).2 _ hi
    obtain ⟨i, hi2⟩ : ∃ i, (f.blocks.getD s.block dBlk).ins.getD s.ins dIns = i := ⟨_, rfl⟩
    rw [hi2] at hne hii ⊢
    unfold definesI
    rw [if_pos hii]
    rcases insR_vars { s with steps := s.steps + 1 } i with h | ⟨_, h⟩
    · rw [h] at hne; exact absurd rfl hne
    · rw [h] at hne
      unfold getV setV at hne
      by_cases e : v = i.dst
      · exact e
      · rw [if_neg e] at hne; exact absurd rfl hne
  · exact absurd rfl hne
theorem termD_to {f : FnD} {x : BlkD} (ht : isTermB x.term = true) {s : ValF} {b i : Int} (h : termD s x.term = .spot b i) : b ∈ toL x.term ∧ i = 0 := by
  unfold termD at h
  unfold toL
  rw [if_pos ht]
  unfold isTermB at ht
  by_cases k3 : x.term.kind = 3
  · rw [if_pos k3] at h; cases h
  by_cases k4 : x.term.kind = 4
  · rw [if_neg k3, if_pos k4] at h; cases h
  rw [if_neg k3, if_neg k4] at h
  by_cases k1 : x.term.kind = 1
  · rw [if_neg (by omega)] at h
    simp only [NextD.spot.injEq] at h
    rw [if_pos k1]
    exact ⟨by simp [h.1], h.2.symm⟩
  by_cases k2 : x.term.kind = 2
  · rw [if_neg k1, if_pos k2]
    split at h <;> (simp only [NextD.spot.injEq] at h; exact ⟨by simp [h.1], h.2.symm⟩)
  · rw [if_neg k1, if_neg k2, if_neg k3] at ht
    simp only [Bool.and_eq_true, beq_iff_eq] at ht
    exact absurd ht.1 k4
theorem goesTo_fin {r : RunD} {e : NextD} {s : RunD} (hr : r.fin = 0) (h : goesTo r e = s) (h0 : s.fin = 0) (hd : ∀ v, e ≠ .done 0 v) : ∃ b i, e = .spot b i := by
  cases e with
  | spot b i => exact ⟨b, i, rfl⟩
  | done a v =>
    subst h
    simp only [goesTo] at h0
    subst h0
    exact absurd rfl (hd v)
theorem nextR_done (f : FnD) (s : RunD) (v : Int) : (nextR f s).2 ≠ .done 0 v := by
  unfold nextR
  split
  · unfold insR
    split <;> (intro h; cases h)
  · unfold termD
    intro h
    simp only at h
    repeat' split at h
    all_goals cases h
/-- It goes on, from block to block, by edges. -/
theorem goes_on {f : FnD} {s : RunD} (hw : wholeB f = true) (hb : s.block < f.blocks.length) (h0 : s.fin = 0) (h1 : (stepR f s).1.fin = 0) :
    (s.ins < (atBlk f s).ins.length → (stepR f s).1.block = s.block ∧ (stepR f s).1.ins = s.ins + 1) ∧
    (¬ s.ins < (atBlk f s).ins.length → (stepR f s).1.ins = 0 ∧ ∃ b ∈ toL (atBlk f s).term, (stepR f s).1.block = b.toNat ∧ (stepR f s).1.vars = s.vars) := by
  have hx : atBlk f s ∈ f.blocks := by rw [← atBlk_eq hb]; exact List.getElem_mem hb
  rw [stepR_fin h0] at h1 ⊢
  obtain ⟨b, i, he⟩ := goesTo_fin (r := (nextR f { s with steps := s.steps + 1 }).1) (by
    show (nextR f _).1.fin = 0
    unfold nextR
    split
    · rw [(insR_same _ _).2.2.1]; exact h0
    · exact h0) rfl h1 (nextR_done f _)
  have e1 : (goesTo (nextR f { s with steps := s.steps + 1 }).1 (nextR f { s with steps := s.steps + 1 }).2) = { (nextR f { s with steps := s.steps + 1 }).1 with block := b.toNat, ins := i.toNat } := by rw [he]; rfl
  simp only [e1]
  constructor
  · intro hlt
    unfold nextR at he
    split at he
    case isFalse hh => exact absurd hlt hh
    obtain ⟨g1, g2, _⟩ := insR_spot he
    simp only at g1 g2
    exact ⟨by rw [g1]; simp, by rw [g2]; omega⟩
  · intro hge
    have e3 : nextR f { s with steps := s.steps + 1 } = ({ s with steps := s.steps + 1 }, termD s.vars (atBlk f s).term) := if_neg hge
    rw [e3] at he ⊢
    obtain ⟨g1, g2⟩ := termD_to (f := f) (x := atBlk f s) (whole_ins hw hx).1 he
    exact ⟨by rw [g2]; rfl, b, g1, rfl, rfl⟩
theorem goes_vars {f : FnD} {s : RunD} (h0 : s.fin = 0) (h1 : (stepR f s).1.fin = 0) (hlt : s.ins < (atBlk f s).ins.length) (hii : isInsB ((atBlk f s).ins.getD s.ins dIns) = true) :
    ∀ x : Int, 1 ≤ x → ((s.vars x).isSome = true ∨ x.toNat = (definesI ((atBlk f s).ins.getD s.ins dIns)).toNat) → ((stepR f s).1.vars x).isSome = true := by
  intro x hx hor
  rw [stepR_fin h0] at h1 ⊢
  obtain ⟨b, i, he⟩ := goesTo_fin (r := (nextR f { s with steps := s.steps + 1 }).1) (by
    show (nextR f _).1.fin = 0
    unfold nextR
    split
    · rw [(insR_same _ _).2.2.1]; exact h0
    · exact h0) rfl h1 (nextR_done f _)
  have hg : ∀ (r : RunD) (e : NextD), (goesTo r e).vars = r.vars := fun r e => by cases e <;> rfl
  simp only [hg]
  have e3 : nextR f { s with steps := s.steps + 1 } = insR { s with steps := s.steps + 1 } ((atBlk f s).ins.getD s.ins dIns) := if_pos hlt
  rw [e3] at he ⊢
  obtain ⟨y, hy⟩ : ∃ y, (atBlk f s).ins.getD s.ins dIns = y := ⟨_, rfl⟩
  rw [hy] at hor hii he ⊢
  obtain ⟨_, _, g3⟩ := insR_spot he
  unfold definesI at hor
  rw [if_pos hii] at hor
  rcases insR_vars { s with steps := s.steps + 1 } y with h | ⟨hd, h⟩
  · rw [h]
    rcases hor with h2 | h2
    · exact h2
    · by_cases hd : 0 < y.dst
      · have := g3 hd
        rw [h] at this
        have e2 : x = y.dst := by omega
        rw [this, e2]
        simp [setV]
      · omega
  · rw [h]
    unfold setV
    split
    · rfl
    · rename_i hne
      rcases hor with h2 | h2
      · exact h2
      · exfalso; apply hne; omega
theorem safe_step {f : FnD} {s : RunD} (hw : wholeB f = true) (hE : edgesOK f) (h : SafeAt f s) (h0 : s.fin = 0) : SafeAt f (stepR f s).1 := by
  intro h1
  obtain ⟨H, k1, k2, k3⟩ := h h0
  have hb := k1.lt
  obtain ⟨g1, g2⟩ := goes_on hw hb h0 h1
  have e := atBlk_eq hb
  by_cases hlt : s.ins < (atBlk f s).ins.length
  · obtain ⟨g3, g4⟩ := g1 hlt
    have eb : atBlk f (stepR f s).1 = atBlk f s := by unfold atBlk; rw [g3]
    refine ⟨H, by rw [g3]; exact k1, by rw [eb, g4]; omega, fun x hx ho => ?_⟩
    rw [eb, g4, take_snoc_eq _ _ hlt, outF_snoc] at ho
    have hii : isInsB ((atBlk f s).ins.getD s.ins dIns) = true := by
      have hm := List.getElem_mem hlt
      have := (whole_ins hw (x := atBlk f s) (by rw [← e]; exact List.getElem_mem hb)).2 _ hm
      simpa [List.getD, hlt] using this
    have ey : (atBlk f s).ins.getD s.ins dIns = (atBlk f s).ins[s.ins] := by simp [List.getD, hlt]
    refine goes_vars h0 h1 hlt hii x hx ?_
    unfold updF at ho
    split at ho
    · rename_i hh; exact .inr (by rw [ey]; exact hh)
    · exact .inl (k3 x hx ho)
  · obtain ⟨g3, b, g4, g5, g6⟩ := g2 hlt
    rw [← e] at g4
    obtain ⟨u, hu, hu1, hG⟩ := k1.step hE g4
    subst hu
    have hbu : (stepR f s).1.block = u := by rw [g5]; simp
    refine ⟨_, by rw [hbu]; exact hG, by rw [g3]; omega, fun x hx ho => ?_⟩
    rw [g3, List.take_zero] at ho
    rw [g6]
    refine k3 x hx ?_
    rw [List.take_of_length_le (by omega), ← e]
    exact ho
theorem zip_dom : ∀ (ps ag : List Int) (s : ValF) (x : Int), ps.length = ag.length → (x ∈ ps ∨ (s x).isSome = true) → ((ps.zip ag).foldl (fun s x => setV s x.1 x.2) s x).isSome = true
  | [], ag, s, x, hl, h => by simpa using h
  | p :: ps, [], s, x, hl, h => by simp at hl
  | p :: ps, a :: ag, s, x, hl, h => by
    simp only [List.zip_cons_cons, List.foldl_cons]
    refine zip_dom ps ag _ x (by simpa using hl) ?_
    rcases h with h | h
    · rcases List.mem_cons.1 h with rfl | h
      · exact .inr (by simp [setV])
      · exact .inl h
    · refine .inr ?_
      unfold setV
      split
      · rfl
      · exact h
theorem safe_begin {f : FnD} {ag mem ans : List Int} (hok : BeginOK f ag mem) : SafeAt f (runB f ag mem ans) := by
  intro _
  refine ⟨_, Good.start f (longB_blocks (rightI_zero' hok.1).1).1, Nat.zero_le _, fun x hx ho => ?_⟩
  have : outF (fun v => decide ((v : Int) ∈ f.params)) ((atBlk f (runB f ag mem ans)).ins.take 0) x.toNat = true := ho
  rw [List.take_zero] at this
  have hm : x ∈ f.params := by
    have h2 : decide (((x.toNat : Nat) : Int) ∈ f.params) = true := this
    rw [decide_eq_true_eq, show ((x.toNat : Nat) : Int) = x by omega] at h2
    exact h2
  exact zip_dom f.params ag _ x hok.2.1.symm (.inl hm)
theorem safe_it {f : FnD} {s : RunD} (hw : wholeB f = true) (hE : edgesOK f) (h : SafeAt f s) : ∀ k, (itR f s k).fin = 0 → SafeAt f (itR f s k)
  | 0, _ => h
  | k + 1, h0 => by
    by_cases hf : (itR f s k).fin = 0
    · exact safe_step hw hE (safe_it hw hE h k hf) hf
    · have e : itR f s (k + 1) = itR f s k := itR_stop hf 1
      rw [e] at h0
      exact absurd h0 hf
end Go.Proofs.Ytnbmmfkkjceehaa
