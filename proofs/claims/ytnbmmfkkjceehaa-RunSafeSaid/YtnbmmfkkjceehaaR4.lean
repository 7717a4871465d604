/- Contracts: slices.Clone of instructions, of blocks. -/
import Derived.Test.YtnbmmfkkjceehaaR3
import Derived.Test.YtnbmmfkkjceehaaA3
namespace Go.Proofs.Ytnbmmfkkjceehaa
set_option linter.unusedSimpArgs false
set_option linter.unusedVariables false
open Go.RowKit

def zIns : Value := .agg #[.int .i64 0, .int .i64 0, .int .i64 0, .int .i64 0, .int .i64 0, .int .i64 0, .slice none 0 0, .int .i64 0]
def zBlk : Value := .agg #[.slice none 0 0, .int .i64 0, .int .i64 0, .int .i64 0, .int .i64 0]
theorem Try.infoIns : (Try.prog.info? 59).map (fun i => (i.zero, i.size, i.bytes)) = some (some zIns, 8, 80) := by kernel_rfl
theorem Try.infoBlk : (Try.prog.info? 55).map (fun i => (i.zero, i.size, i.bytes)) = some (some zBlk, 5, 56) := by kernel_rfl
theorem wpList_append_raw {P : Program} {w : World} {ops : Array Oper} {rest : List Oper} {o : Oper} {a : Act} {Q : Exit → Act → World → Prop} (hgd : o.guard = none) (s x : Operand) (t : TypeId)
    (ho : o.op = .call { callee := .builtin .append, args := #[s, x], argTypes := #[t, t] })
    (base : Nat) (e : TypeId) (ht : P.underlying t = some (.slice e)) (z : Value) (sz by_ : Nat) (hi : (P.info? e).map (fun i => (i.zero, i.size, i.bytes)) = some (some z, sz, by_)) (hzs : z.cells.size = sz) (hsz : 0 < sz)
    (v : Value) (n : Nat) (xs : List Value) (hs : a.eval s = v) (hown : w.ownsRow base e sz v n xs)
    (A : Option Addr) (c m : Nat) (vs : List Value) (hx : a.eval x = .slice A m c) (hr : RV w A c m sz vs) (h1 : ∀ u ∈ vs, u.oneCell' = true)
    (h63 : n + m ≤ maxLen) (hbytes : (n + m) * by_ ≤ 140737488355328) (hbase : base ≤ w.heap.size)
    (h : ∀ v' w', w'.ownsRow base e sz v' (n + m) (xs ++ vs) → w.grownBy w' v.ownBlock → wpList P ops Q rest (a.put o.dst v') w') : wpList P ops Q (o :: rest) a w := by
  obtain ⟨i0, hi, hz0, hz1, hz2⟩ := info_parts hi
  cases A with
  | none =>
    have hc0 := hr.nil rfl
    have hm0 : m = 0 := by have := hr.cap; omega
    subst hm0 hc0
    have hv0 : vs = [] := List.length_eq_zero_iff.1 (by have := hr.len; omega)
    subst hv0
    refine wpList_append_own_none hgd s x t ho base e i0 sz ht hi v _ _ hs hown hx ?_
    refine h _ _ (by simpa using hown) ⟨rfl, rfl, rfl, Nat.le_refl _, fun _ _ _ => rfl⟩
  | some ad =>
    refine wpList_append_own w hgd s x t ho base e i0 z sz by_ ht hi hz0 hz1 hz2 hzs hsz v _ _ hs hown ad m c vs hx hr.len ?_ h1 h63 hbytes hbase ?_
    · intro j u hj
      obtain ⟨b, o, hA, hlt, hc⟩ := hr.get j u hj
      cases hA
      rw [Addr.add_lit]
      exact hc
    · intro v' w' h1 h2 _
      exact h v' w' h1 h2
theorem CIns.one {vs : List Value} {l : List InsD} {h : HdF} (hc : CIns vs l h) : ∀ u ∈ vs, u.oneCell' = true := by
  intro u hu
  obtain ⟨q, hq, rfl⟩ := List.mem_iff_getElem.1 hu
  have hj : q / 8 < l.length := by have := hc.1; omega
  have hm : q % 8 < 8 := by omega
  have h2 := hc.2 (q / 8) _ (List.getElem?_eq_getElem hj) (q % 8)
  have e : q / 8 * 8 + q % 8 = q := by omega
  rw [e, List.getElem?_eq_getElem hq] at h2
  generalize q % 8 = r at h2 hm
  match r, hm, h2 with
  | 0, _, h2 => have := Option.some.inj (h2 _ rfl); rw [this]; rfl
  | 1, _, h2 => have := Option.some.inj (h2 _ rfl); rw [this]; rfl
  | 2, _, h2 => have := Option.some.inj (h2 _ rfl); rw [this]; rfl
  | 3, _, h2 => have := Option.some.inj (h2 _ rfl); rw [this]; rfl
  | 4, _, h2 => have := Option.some.inj (h2 _ rfl); rw [this]; rfl
  | 5, _, h2 => have := Option.some.inj (h2 _ rfl); rw [this]; rfl
  | 6, _, h2 => have := Option.some.inj (h2 _ rfl); rw [this]; rfl
  | 7, _, h2 => have := Option.some.inj (h2 _ rfl); rw [this]; rfl
theorem CBlk.one {vs : List Value} {l : List BlkD} {h : HdF} (hc : CBlk vs l h) : ∀ u ∈ vs, u.oneCell' = true := by
  intro u hu
  obtain ⟨q, hq, rfl⟩ := List.mem_iff_getElem.1 hu
  have hj : q / 5 < l.length := by have := hc.1; omega
  have hm : q % 5 < 5 := by omega
  have h2 := hc.2 (q / 5) _ (List.getElem?_eq_getElem hj) (q % 5)
  have e : q / 5 * 5 + q % 5 = q := by omega
  rw [e, List.getElem?_eq_getElem hq] at h2
  generalize q % 5 = r at h2 hm
  match r, hm, h2 with
  | 0, _, h2 => have := Option.some.inj (h2 _ rfl); rw [this]; rfl
  | 1, _, h2 => have := Option.some.inj (h2 _ rfl); rw [this]; rfl
  | 2, _, h2 => have := Option.some.inj (h2 _ rfl); rw [this]; rfl
  | 3, _, h2 => have := Option.some.inj (h2 _ rfl); rw [this]; rfl
  | 4, _, h2 => have := Option.some.inj (h2 _ rfl); rw [this]; rfl
/-- What is told is a fresh row of cells. -/
def RetRaw (e0 : TypeId) (sz n : Nat) (vs : List Value) (w : World) (e : Ending) (w' : World) : Prop := ∃ v, e = .returned v ∧ Below w.heap.size w w' ∧ w'.ownsRow w.heap.size e0 sz v n vs
set_option maxHeartbeats 2000000 in
set_option maxRecDepth 100000 in
theorem cloneIns_any (w : World) (A : Option Addr) (c n : Nat) (vs : List Value) (h : RV w A c n 8 vs) (h1 : ∀ u ∈ vs, u.oneCell' = true) (hbig : n * 80 ≤ 140737488355328) :
    Calls Try.prog 39 #[.slice A n c] w (RetRaw 59 8 n vs w) := by
  have q22 : ∀ (w : World) (a : Option Addr) (n c n' c' : Nat), (binOp .eql 49 (.slice a n c) (.slice none n' c')).run Try.prog w = .ok (.bool a.isNone) w := fun w a n c n' c' => Lib.run_eql_slice_nil w _ _ a n c n' c' Try.underlying49
  have u22 : ∀ w, Sem.run Try.prog (underlying 49) w = .ok (TypeDesc.slice 59) w := run_underlying Try.underlying49
  have H := Lib.hid h
  have H1 := Lib.hid h1
  clear h h1
  cases A with
  | none =>
    have hc0 := H.out.nil rfl
    have hm0 : n = 0 := by have := H.out.cap; omega
    have hv0 : vs = [] := List.length_eq_zero_iff.1 (by have := H.out.len; omega)
    subst hm0 hv0 hc0
    go_enter Try.func39, Try.ntmps39
    go_wp2
    go_ret
    exact ⟨_, rfl, Below.refl _ _, World.ownsRow_nil _ _ _ _⟩
  | some ad =>
    go_enter Try.func39, Try.ntmps39
    go_wp2_with (at_builtin; refine wpList_append_raw rfl _ _ 49 rfl w.heap.size 59 Try.underlying49 zIns 8 80 Try.infoIns rfl (by decide) _ 0 [] rfl (World.ownsRow_made w #[] 0 (Nat.le_refl _) (Nat.zero_le _) rfl) (some ad) c _ vs rfl (H.out.below (by go_grown)) H1.out (by unfold maxLen; omega) (by omega) (by simp) ?_; intro v' w1 hown hgrow)
    go_ret
    exact ⟨v', rfl, ((Below.refl _ w).alloc (Nat.le_refl _) _).grown hgrow (by simp) (by intro k hk; simp [Value.ownBlock, Act.eval] at hk; omega), by simpa using hown⟩
set_option maxHeartbeats 2000000 in
set_option maxRecDepth 100000 in
theorem cloneBlk_any (w : World) (A : Option Addr) (c n : Nat) (vs : List Value) (h : RV w A c n 5 vs) (h1 : ∀ u ∈ vs, u.oneCell' = true) (hbig : n * 56 ≤ 140737488355328) :
    Calls Try.prog 38 #[.slice A n c] w (RetRaw 55 5 n vs w) := by
  have q22 : ∀ (w : World) (a : Option Addr) (n c n' c' : Nat), (binOp .eql 28 (.slice a n c) (.slice none n' c')).run Try.prog w = .ok (.bool a.isNone) w := fun w a n c n' c' => Lib.run_eql_slice_nil w _ _ a n c n' c' Try.underlying28
  have u22 : ∀ w, Sem.run Try.prog (underlying 28) w = .ok (TypeDesc.slice 55) w := run_underlying Try.underlying28
  have H := Lib.hid h
  have H1 := Lib.hid h1
  clear h h1
  cases A with
  | none =>
    have hc0 := H.out.nil rfl
    have hm0 : n = 0 := by have := H.out.cap; omega
    have hv0 : vs = [] := List.length_eq_zero_iff.1 (by have := H.out.len; omega)
    subst hm0 hv0 hc0
    go_enter Try.func38, Try.ntmps38
    go_wp2
    go_ret
    exact ⟨_, rfl, Below.refl _ _, World.ownsRow_nil _ _ _ _⟩
  | some ad =>
    go_enter Try.func38, Try.ntmps38
    go_wp2_with (at_builtin; refine wpList_append_raw rfl _ _ 28 rfl w.heap.size 55 Try.underlying28 zBlk 5 56 Try.infoBlk rfl (by decide) _ 0 [] rfl (World.ownsRow_made w #[] 0 (Nat.le_refl _) (Nat.zero_le _) rfl) (some ad) c _ vs rfl (H.out.below (by go_grown)) H1.out (by unfold maxLen; omega) (by omega) (by simp) ?_; intro v' w1 hown hgrow)
    go_ret
    exact ⟨v', rfl, ((Below.refl _ w).alloc (Nat.le_refl _) _).grown hgrow (by simp) (by intro k hk; simp [Value.ownBlock, Act.eval] at hk; omega), by simpa using hown⟩
end Go.Proofs.Ytnbmmfkkjceehaa
