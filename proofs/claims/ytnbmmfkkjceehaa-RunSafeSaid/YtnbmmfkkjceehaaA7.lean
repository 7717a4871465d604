/- Contract: ir.whole. -/
import Derived.Test.YtnbmmfkkjceehaaA6
namespace Go.Proofs.Ytnbmmfkkjceehaa
set_option linter.unusedSimpArgs false
set_option linter.unusedVariables false
open Go.RowKit

def okP (xs : List Int) : Bool := xs.all varB && decide xs.Nodup
def okBlk (x : BlkD) : Bool := isTermB x.term && !x.ins.any (fun i => !isInsB i)
def wholeB (f : FnD) : Bool := okP f.params && f.blocks.all okBlk
theorem okP_take {xs : List Int} (k : Nat) (h : okP xs = true) : okP (xs.take k) = true := by
  simp only [okP, Bool.and_eq_true, List.all_eq_true, decide_eq_true_eq] at h ⊢
  exact ⟨fun x hx => h.1 x (List.mem_of_mem_take hx), h.2.sublist (List.take_sublist k xs)⟩
theorem okP_bad {xs : List Int} {k : Nat} (h : okP (xs.take k) = false) : okP xs = false := by
  rw [Bool.eq_false_iff] at h ⊢
  exact fun h' => h (okP_take k h')
theorem take_snoc_eq {α : Type} (xs : List α) (k : Nat) (hk : k < xs.length) : xs.take (k + 1) = xs.take k ++ [xs[k]] := by
  rw [List.take_add_one, List.getElem?_eq_getElem hk]; rfl
theorem okP_snoc (xs : List Int) (k : Nat) (hk : k < xs.length) (h : okP (xs.take k) = true) : okP (xs.take (k + 1)) = (varB xs[k] && !decide (xs[k] ∈ xs.take k)) := by
  rw [take_snoc_eq xs k hk]
  simp only [okP, Bool.and_eq_true, List.all_eq_true, decide_eq_true_eq] at h
  rw [Bool.eq_iff_iff]
  simp only [okP, Bool.and_eq_true, List.all_eq_true, decide_eq_true_eq, List.nodup_append, List.mem_append, List.mem_singleton, Bool.not_eq_true', decide_eq_false_iff_not]
  constructor
  · rintro ⟨h1, h2, h3, h4⟩
    exact ⟨h1 _ (.inr rfl), fun hm => h4 _ hm _ rfl rfl⟩
  · rintro ⟨h1, h2⟩
    refine ⟨?_, h.2, by simp, ?_⟩
    · rintro x (hx | rfl)
      · exact h.1 x hx
      · exact h1
    · rintro a ha b rfl rfl
      exact h2 ha

set_option maxRecDepth 100000 in
set_option maxHeartbeats 4000000 in
theorem whole_any (w : World) (A : Option Addr) (c : Nat) (B : Option Addr) (d : Nat) (f : FnD) (hp : RI w A c f.params) (h : RBlk w B d f.blocks) : Calls Try.prog 35 #[fnV A c B d f] w (RetBb (wholeB f) w) := by
  have hbig := h.1
  have hpbig := hp.1
  have H := Lib.hid h
  have Hp := Lib.hid hp
  clear h hp
  simp only [fnV]
  go_enter Try.func35, Try.ntmps35
  go_wp2_with (with_reducible refine wpList_alloc_set rfl 106 rfl Try.setZero ?_)
  go_loopw [11] (fun i wr => ∃ k : Nat, k ≤ f.params.length ∧ i = .int .i64 k ∧ Hid (okP (f.params.take k) = true) ∧ Below (w.heap.size + 1) (w.alloc (.cells #[.slice A f.params.length c, .slice B f.blocks.length d] 30)) wr ∧ SetAt wr (w.heap.size + 1) 106 (fun j => decide ((j : Int) ∈ f.params.take k))) (fun i _ => f.params.length - (intOf i).toNat)
  case atStart =>
    refine ⟨0, Nat.zero_le _, rfl, Lib.hid (by simp [okP]), by go_grown, ?_⟩
    simpa using SetAt.new (w.alloc _) 106 (fun _ => false)
  case round =>
    obtain ⟨k, hk, rfl, Ht, hb, hs⟩ := hrel
    have Hs := Lib.hid hs
    have HB := Lib.hid hb
    have hbw : Below w.heap.size w wr := ((Below.refl _ _).alloc (Nat.le_refl _) _).trans (hb.mono (by omega))
    have HBw := Lib.hid hbw
    clear hs hb hbw
    by_cases hlt : k < f.params.length
    · obtain ⟨b, o, hA, hbs, hc⟩ := (Hp.out.below HBw.out).at k hlt
      subst hA
      have Hsn := Lib.hid (okP_snoc f.params k hlt Ht.out)
      cases hv : varB f.params[k]
      · have Hv := Lib.hid hv
        clear hv
        have HW : Hid (wholeB f = false) := by
          have : okP f.params = false := okP_bad (k := k + 1) (by rw [Hsn.out, Hv.out]; rfl)
          exact Lib.hid (by simp [wholeB, this])
        go_wp2_with (go_at_call 44; refine (variable_any _ _).mono ?_; rintro e w' ⟨rfl, rfl⟩; rw [Hv.out])
        go_ret
        exact ⟨ret_bool HW.out.symm, HBw.out⟩
      · have Hv := Lib.hid hv
        have hr : 1 ≤ f.params[k] ∧ f.params[k] ≤ 200 := by simpa [varB] using hv
        clear hv
        obtain ⟨v, hvk⟩ := Int.eq_ofNat_of_zero_le (show 0 ≤ f.params[k] by omega)
        have hv1 : v < 201 := by omega
        have Hvk := Lib.hid hvk
        have Hv2 : Hid (varB (v : Int) = true) := Lib.hid (by rw [← hvk]; exact Hv.out)
        have hcs := Hs.out.cell v hv1
        have hfs := Hs.out.free v
        rw [hvk] at hc
        clear hvk hr
        by_cases hm : (v : Int) ∈ f.params.take k
        · have HW : Hid (wholeB f = false) := by
            have : okP f.params = false := okP_bad (k := k + 1) (by rw [Hsn.out, Hvk.out]; simp [hm])
            exact Lib.hid (by simp [wholeB, this])
          simp only [hm, decide_true] at hcs
          clear hm
          go_wp2_with (go_at_call 44; refine (variable_any _ _).mono ?_; rintro e w' ⟨rfl, rfl⟩; rw [Hv2.out])
          go_ret
          exact ⟨ret_bool HW.out.symm, HBw.out⟩
        · have Hm := Lib.hid hm
          simp only [hm, decide_false] at hcs
          clear hm
          go_wp2_with (go_at_call 44; refine (variable_any _ _).mono ?_; rintro e w' ⟨rfl, rfl⟩; rw [Hv2.out])
          go_roundw
          case rel =>
            refine ⟨k + 1, by omega, by go_num, Lib.hid (by rw [Hsn.out, Hv.out, Hvk.out]; simp [Hm.out]), HB.out.setCell (by simp) _, ?_⟩
            refine Eq.trans (Hs.out.stored v hv1 true) ?_
            rw [setC_congr]
            intro j hj
            unfold updF
            rw [take_snoc_eq _ k hlt, Hvk.out]
            by_cases e : j = v
            · subst e; simp
            · simp [e]; omega
          case measure => simp [intOf]; omega
    · have hkl : k = f.params.length := by omega
      subst hkl
      have HP : Hid (okP f.params = true) := Lib.hid (by have := Ht.out; rwa [List.take_length] at this)
      clear Ht Hs
      obtain ⟨hcb, hfb⟩ := bcell HB.out
      obtain ⟨wo, hwo⟩ : ∃ wo : World, wo = wr := ⟨_, rfl⟩
      subst hwo
      go_wp2_with fail
      clear hcb hfb
      go_loopw [29] (fun i wr => ∃ k : Nat, k ≤ f.blocks.length ∧ i = .int .i64 k ∧ Hid (∀ x ∈ f.blocks.take k, (!okBlk x) = false) ∧ Below w.heap.size w wr) (fun i _ => f.blocks.length - (intOf i).toNat)
      case atStart => exact ⟨0, Nat.zero_le _, rfl, Lib.hid (by simp), HBw.out⟩
      case round =>
        obtain ⟨k, hk, rfl, Ht, hb⟩ := hrel
        by_cases hlt : k < f.blocks.length
        · obtain ⟨b, o, A', c', hA, hbs, hat⟩ := (H.out.below hb).at k hlt
          subst hA
          have h0 := hat.c0
          have h1 := hat.c1
          have h2 := hat.c2
          have h3 := hat.c3
          have h4 := hat.c4
          have HA := Lib.hid hat
          have HB2 := Lib.hid hb
          clear hat hb
          cases htm : isTermB f.blocks[k].term
          · have Htm := Lib.hid htm
            clear htm
            have HW : Hid (wholeB f = false) := by
              have : f.blocks.all okBlk = false := by
                rw [List.all_eq_false]
                exact ⟨_, List.getElem_mem hlt, by simp [okBlk, Htm.out]⟩
              exact Lib.hid (by simp [wholeB, this])
            go_wp2_with (go_at_call 31; refine (isTerm_any _ f.blocks[k].term).mono ?_; rintro e w1 ⟨rfl, hb⟩; rw [Htm.out])
            go_ret
            exact ⟨ret_bool HW.out.symm, (HB2.out.alloc HB2.out.size _).trans (hb.mono (by simp; have := HB2.out.size; omega))⟩
          · cases hin : f.blocks[k].ins.any (fun i => !isInsB i)
            all_goals
              have Htm := Lib.hid htm
              have Hin := Lib.hid hin
              clear htm hin
              go_wp2_with (first
                | (go_at_call 31; refine (isTerm_any _ f.blocks[k].term).mono ?_; rintro e w1 ⟨rfl, hb⟩; rw [Htm.out]; obtain ⟨hc, hf⟩ := bcell hb; have hz : wr.heap.size < w1.heap.size := Nat.lt_of_lt_of_le (by simp) hb.size; simp only [World.size_alloc] at hc hf)
                | (go_at_call 51; refine (containsIns_any _ A' c' f.blocks[k].ins _ _ (HA.out.ins.below (((Below.refl _ _).alloc (Nat.le_refl _) _).trans (hb.mono (by simp)))) (pred_whole _ _)).mono ?_; rintro e w2 ⟨rfl, hb2⟩; rw [Hin.out]))
              have hbw2 : Below w.heap.size w w2 := ((HB2.out.alloc HB2.out.size _).trans (hb.mono (by simp; have := HB2.out.size; omega))).trans (hb2.mono (by have := HB2.out.size; omega))
            · go_roundw
              case rel => exact ⟨k + 1, by omega, by go_num, Lib.hid (take_snoc_all hlt Ht.out (by simp [okBlk, Htm.out, Hin.out])), hbw2⟩
              case measure => simp [intOf]; omega
            · have HW : Hid (wholeB f = false) := by
                have : f.blocks.all okBlk = false := by
                  rw [List.all_eq_false]
                  exact ⟨_, List.getElem_mem hlt, by simp [okBlk, Htm.out, Hin.out]⟩
                exact Lib.hid (by simp [wholeB, this])
              go_ret
              exact ⟨ret_bool HW.out.symm, hbw2⟩
        · have HW : Hid (wholeB f = true) := by
            have : f.blocks.all okBlk = true := by
              rw [List.all_eq_true]
              intro x hx
              have := Ht.out x (by rw [List.take_of_length_le (by omega)]; exact hx)
              simpa using this
            exact Lib.hid (by simp [wholeB, this, HP.out])
          have HB2 := Lib.hid hb
          clear hb
          go_wp2
          go_ret
          exact ⟨ret_bool HW.out.symm, HB2.out⟩
end Go.Proofs.Ytnbmmfkkjceehaa
