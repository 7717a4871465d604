/- Contracts: ir.long. -/
import Derived.Test.YtnbmmfkkjceehaaA5
import Derived.Test.YtnbmmfkkjceehaaD2
namespace Go.Proofs.Ytnbmmfkkjceehaa
set_option linter.unusedSimpArgs false
set_option linter.unusedVariables false
open Go.RowKit

def blkV (A : Option Addr) (c : Nat) (x : BlkD) : Value := .agg #[.slice A x.ins.length c, .int .i64 x.term.kind, .int .i64 x.term.a, .int .i64 x.term.t0, .int .i64 x.term.t1]
def fnV (A : Option Addr) (c : Nat) (B : Option Addr) (d : Nat) (f : FnD) : Value := .agg #[.slice A f.params.length c, .slice B f.blocks.length d]

theorem long1_any (w : World) (A : Option Addr) (c : Nat) (x : BlkD) (hl : x.ins.length ≤ 140737488351232) : Calls Try.prog 50 #[blkV A c x] w (RetBb (decide (64 < x.ins.length)) w) := by
  simp only [blkV]
  go_enter Try.func50, Try.ntmps50
  go_wp2
  go_ret
  exact ⟨ret_bool (by simp; omega), by go_grown⟩

/-- A predicate on blocks, as a function value. -/
structure PredB (g : Nat) (w : World) (l : List BlkD) (p : BlkD → Bool) : Prop where
  enter : ∀ args w, (callFunc g args).run Try.prog w = .ok (.enter g args) w
  calls : ∀ (w' : World) (A : Option Addr) (c : Nat) (x : BlkD), x ∈ l → Below w.heap.size w w' → RIns w' A c x.ins → Calls Try.prog g #[blkV A c x] w' (RetBb (p x) w')

def idxL {α : Type} (p : α → Bool) (xs : List α) : Int := if xs.any p then ((xs.findIdx p : Nat) : Int) else -1
theorem idxL_hit {α : Type} (p : α → Bool) (xs : List α) (k : Nat) (hk : k < xs.length) (h : ∀ x ∈ xs.take k, p x = false) (hp : p xs[k] = true) : idxL p xs = k := by
  have ha : xs.any p = true := List.any_eq_true.2 ⟨_, List.getElem_mem hk, hp⟩
  unfold idxL
  rw [if_pos ha, (List.findIdx_eq hk).2 ⟨hp, fun j hj => ?_⟩]
  refine Bool.eq_false_iff.1 (h _ ?_) |> Bool.eq_false_iff.2
  rw [List.mem_iff_getElem?]
  exact ⟨j, by rw [List.getElem?_take_of_lt hj, List.getElem?_eq_getElem]⟩
theorem idxL_miss {α : Type} (p : α → Bool) (xs : List α) (h : ∀ x ∈ xs, p x = false) : idxL p xs = -1 := by
  have ha : xs.any p = false := by rw [List.any_eq_false]; exact fun x hx => by simp [h x hx]
  unfold idxL
  rw [ha]; rfl
theorem idxL_any {α : Type} (p : α → Bool) (xs : List α) : decide (0 ≤ idxL p xs) = xs.any p := by
  unfold idxL
  cases h : xs.any p
  · rfl
  · simp
theorem take_snoc_all {α : Type} {p : α → Bool} {xs : List α} {k : Nat} (hk : k < xs.length) (h : ∀ x ∈ xs.take k, p x = false) (hp : p xs[k] = false) : ∀ x ∈ xs.take (k + 1), p x = false := by
  intro x hx
  rw [List.take_add_one, List.getElem?_eq_getElem hk, List.mem_append] at hx
  rcases hx with hx | hx
  · exact h x hx
  · simp at hx; rw [hx]; exact hp

set_option maxHeartbeats 800000 in
theorem indexBlk_any (w : World) (A : Option Addr) (c : Nat) (l : List BlkD) (g : Nat) (p : BlkD → Bool) (h : RBlk w A c l) (hp : PredB g w l p) :
    Calls Try.prog 59 #[.slice A l.length c, .func (.func g) #[] #[]] w (RetIb (idxL p l) w) := by
  have hbig := h.1
  have H := Lib.hid h
  have Hp := Lib.hid hp
  have henter := hp.enter
  clear h hp
  go_enter Try.func59, Try.ntmps59
  go_wp2_with fail
  go_loopw [8] (fun i wr => ∃ k : Nat, k ≤ l.length ∧ i = .int .i64 k ∧ Hid (∀ x ∈ l.take k, p x = false) ∧ Below w.heap.size w wr) (fun i _ => l.length - (intOf i).toNat)
  case atStart => exact ⟨0, Nat.zero_le _, rfl, Lib.hid (by simp), Below.refl _ _⟩
  case round =>
    obtain ⟨k, hk, rfl, Ht, hb⟩ := hrel
    by_cases hlt : k < l.length
    · obtain ⟨b, o, A', c', hA, hbs, hat⟩ := (H.out.below hb).at k hlt
      subst hA
      have h0 := hat.c0
      have h1 := hat.c1
      have h2 := hat.c2
      have h3 := hat.c3
      have h4 := hat.c4
      have HA := Lib.hid hat
      have HB := Lib.hid hb
      clear hat hb
      cases hpx : p l[k]
      all_goals
        have Hpx := Lib.hid hpx
        clear hpx
        go_wp2_with (refine (Hp.out.calls _ A' c' _ (List.getElem_mem hlt) HB.out HA.out.ins).mono ?_; rintro e w' ⟨rfl, hb2⟩; rw [Hpx.out])
      · go_roundw
        case rel => exact ⟨k + 1, by omega, by go_num, Lib.hid (take_snoc_all hlt Ht.out Hpx.out), HB.out.trans (hb2.mono HB.out.size)⟩
        case measure => simp [intOf]; omega
      · go_ret
        exact ⟨ret_int (idxL_hit p l k hlt Ht.out Hpx.out).symm, HB.out.trans (hb2.mono HB.out.size)⟩
    · have e : idxL p l = -1 := idxL_miss p l (fun x hx => Ht.out x (by rw [List.take_of_length_le (by omega)]; exact hx))
      have E := Lib.hid e
      clear e
      go_wp2
      go_ret
      exact ⟨ret_int E.out.symm, hb⟩

theorem containsBlk_any (w : World) (A : Option Addr) (c : Nat) (l : List BlkD) (g : Nat) (p : BlkD → Bool) (h : RBlk w A c l) (hp : PredB g w l p) :
    Calls Try.prog 49 #[.slice A l.length c, .func (.func g) #[] #[]] w (RetBb (l.any p) w) := by
  have C := Lib.hid (indexBlk_any w A c l g p h hp)
  have E := Lib.hid (idxL_any p l)
  clear h hp
  go_enter Try.func49, Try.ntmps49
  go_wp2_with ((with_reducible refine C.out.mono ?_); rintro e w' ⟨rfl, hb⟩)
  go_ret
  exact ⟨ret_bool E.out, hb⟩

/-- A predicate on instructions, as a function value. -/
structure PredN (g : Nat) (w : World) (l : List InsD) (p : InsD → Bool) : Prop where
  enter : ∀ args w, (callFunc g args).run Try.prog w = .ok (.enter g args) w
  calls : ∀ (w' : World) (A : Option Addr) (c : Nat) (x : InsD), x ∈ l → Below w.heap.size w w' → RI w' A c x.args → Calls Try.prog g #[insV A c x] w' (RetBb (p x) w')

set_option maxHeartbeats 800000 in
theorem indexIns_any (w : World) (A : Option Addr) (c : Nat) (l : List InsD) (g : Nat) (p : InsD → Bool) (h : RIns w A c l) (hp : PredN g w l p) :
    Calls Try.prog 60 #[.slice A l.length c, .func (.func g) #[] #[]] w (RetIb (idxL p l) w) := by
  have hbig := h.1
  have H := Lib.hid h
  have Hp := Lib.hid hp
  have henter := hp.enter
  clear h hp
  go_enter Try.func60, Try.ntmps60
  go_wp2_with fail
  go_loopw [8] (fun i wr => ∃ k : Nat, k ≤ l.length ∧ i = .int .i64 k ∧ Hid (∀ x ∈ l.take k, p x = false) ∧ Below w.heap.size w wr) (fun i _ => l.length - (intOf i).toNat)
  case atStart => exact ⟨0, Nat.zero_le _, rfl, Lib.hid (by simp), Below.refl _ _⟩
  case round =>
    obtain ⟨k, hk, rfl, Ht, hb⟩ := hrel
    by_cases hlt : k < l.length
    · obtain ⟨b, o, A', c', hA, hbs, hat⟩ := (H.out.below hb).at k hlt
      subst hA
      have h0 := hat.c0
      have h1 := hat.c1
      have h2 := hat.c2
      have h3 := hat.c3
      have h4 := hat.c4
      have h5 := hat.c5
      have h6 := hat.c6
      have h7 := hat.c7
      have HA := Lib.hid hat
      have HB := Lib.hid hb
      clear hat hb
      cases hpx : p l[k]
      all_goals
        have Hpx := Lib.hid hpx
        clear hpx
        go_wp2_with (refine (Hp.out.calls _ A' c' _ (List.getElem_mem hlt) HB.out HA.out.args).mono ?_; rintro e w' ⟨rfl, hb2⟩; rw [Hpx.out])
      · go_roundw
        case rel => exact ⟨k + 1, by omega, by go_num, Lib.hid (take_snoc_all hlt Ht.out Hpx.out), HB.out.trans (hb2.mono HB.out.size)⟩
        case measure => simp [intOf]; omega
      · go_ret
        exact ⟨ret_int (idxL_hit p l k hlt Ht.out Hpx.out).symm, HB.out.trans (hb2.mono HB.out.size)⟩
    · have e : idxL p l = -1 := idxL_miss p l (fun x hx => Ht.out x (by rw [List.take_of_length_le (by omega)]; exact hx))
      have E := Lib.hid e
      clear e
      go_wp2
      go_ret
      exact ⟨ret_int E.out.symm, hb⟩

theorem containsIns_any (w : World) (A : Option Addr) (c : Nat) (l : List InsD) (g : Nat) (p : InsD → Bool) (h : RIns w A c l) (hp : PredN g w l p) :
    Calls Try.prog 51 #[.slice A l.length c, .func (.func g) #[] #[]] w (RetBb (l.any p) w) := by
  have C := Lib.hid (indexIns_any w A c l g p h hp)
  have E := Lib.hid (idxL_any p l)
  clear h hp
  go_enter Try.func51, Try.ntmps51
  go_wp2_with ((with_reducible refine C.out.mono ?_); rintro e w' ⟨rfl, hb⟩)
  go_ret
  exact ⟨ret_bool E.out, hb⟩

theorem whole1_any (w : World) (A : Option Addr) (c : Nat) (i : InsD) (h : RI w A c i.args) : Calls Try.prog 52 #[insV A c i] w (RetBb (!isInsB i) w) := by
  have H := Lib.hid h
  clear h
  simp only [insV]
  go_enter Try.func52, Try.ntmps52
  go_wp2_with (go_at_call 32; refine (isIns_any _ A c i (H.out.below (by go_grown))).mono ?_; rintro e w1 ⟨rfl, hb⟩)
  go_ret
  exact ⟨rfl, ((Below.refl _ _).alloc (Nat.le_refl _) _).trans (hb.mono (by simp))⟩
theorem pred_whole (w : World) (l : List InsD) : PredN 52 w l (fun i => !isInsB i) := ⟨fun _ _ => by kernel_rfl, fun w' A c x _ _ hr => whole1_any w' A c x hr⟩
theorem pred_long (w : World) (l : List BlkD) (h : ∀ x ∈ l, x.ins.length ≤ 140737488351232) : PredB 50 w l (fun x => decide (64 < x.ins.length)) := ⟨fun _ _ => by kernel_rfl, fun w' A c x hx _ hr => long1_any w' A c x (h x hx)⟩
theorem RBlk.bigIns {w : World} {A : Option Addr} {c : Nat} {l : List BlkD} (h : RBlk w A c l) : ∀ x ∈ l, x.ins.length ≤ 140737488351232 := by
  intro x hx
  obtain ⟨j, hj⟩ := List.mem_iff_getElem?.1 hx
  obtain ⟨_, _, _, _, _, _, hc⟩ := h.get j x hj
  exact hc.ins.big

def longB (f : FnD) : Bool := f.blocks.length == 0 || decide (200 < f.blocks.length) || decide (8 < f.params.length) || f.blocks.any (fun x => decide (64 < x.ins.length))
set_option maxHeartbeats 1000000 in
theorem long_any (w : World) (A : Option Addr) (c : Nat) (B : Option Addr) (d : Nat) (f : FnD) (hp : f.params.length ≤ 140737488351232) (h : RBlk w B d f.blocks) : Calls Try.prog 34 #[fnV A c B d f] w (RetBb (longB f) w) := by
  have hbig := h.1
  have H := Lib.hid h
  clear h
  simp only [fnV]
  go_enter Try.func34, Try.ntmps34
  go_wp2_with (go_at_call 49; refine (containsBlk_any _ B d f.blocks _ _ (H.out.below (by go_grown)) (pred_long _ _ H.out.bigIns)).mono ?_; rintro e w1 ⟨rfl, hb⟩)
  · go_ret; exact ⟨ret_bool (by simp_all [longB]), by go_grown⟩
  · go_ret
    have n1 : f.blocks.length ≤ 200 := by omega
    have n2 : f.params.length ≤ 8 := by omega
    have m1 : decide ((200 : Int) < f.blocks.length) = false := by simp; omega
    have m2 : decide ((8 : Int) < f.params.length) = false := by simp; omega
    have m3 : ((f.blocks.length : Int) == 0) = (f.blocks.length == 0) := by rw [Bool.eq_iff_iff]; simp
    exact ⟨ret_bool (by simp only [longB, m1, m2, m3, decide_eq_false (Nat.not_lt.2 n1), decide_eq_false (Nat.not_lt.2 n2)]), ((Below.refl _ _).alloc (Nat.le_refl _) _).trans (hb.mono (by simp))⟩
  · go_ret
    have n1 : 8 < f.params.length := by omega
    exact ⟨ret_bool (by simp [longB, n1]), by go_grown⟩
  · go_ret
    have n1 : 200 < f.blocks.length := by omega
    exact ⟨ret_bool (by simp [longB, n1]), by go_grown⟩
end Go.Proofs.Ytnbmmfkkjceehaa
