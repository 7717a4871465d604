/- Contracts: (vars).all, (*Run).word, (*Run).term. -/
import Derived.Test.YtnbmmfkkjceehaaR8
namespace Go.Proofs.Ytnbmmfkkjceehaa
set_option linter.unusedSimpArgs false
set_option linter.unusedVariables false
open Go.RowKit

def getV (s : ValF) (x : Int) : Int := (s x).getD 0
set_option maxRecDepth 100000 in
set_option maxHeartbeats 2000000 in
theorem all_any (w : World) (m n : Nat) (s : ValF) (A : Option Addr) (c k0 : Nat) (xs : List Int) (hk0 : xs.length = k0) (hv : VarsAt w m n s) (h : RI w A c xs) (hx : ∀ x ∈ xs, okI x) (hbig : xs.length ≤ 1000000) : Calls Try.prog 56 #[.map (some m), .slice A k0 c] w (RetRow 3 (xs.map (getV s)) w) := by
  subst hk0
  have H := Lib.hid h
  have HV := Lib.hid hv
  have HX := Lib.hid hx
  clear h hv hx
  go_enter Try.func56, Try.ntmps56
  go_wp2_with fail
  go_loopw [4, 9] (fun ov kv wr => ∃ k : Nat, k ≤ xs.length ∧ kv = .int .i64 k ∧ wr.ownsRow w.heap.size 3 1 ov ((xs.take k).map (getV s)).length (((xs.take k).map (getV s)).map (Value.int .i64)) ∧ Below w.heap.size w wr) (fun _ kv _ => xs.length - (intOf kv).toNat)
  case atStart => exact ⟨0, Nat.zero_le _, rfl, by simpa using World.ownsRow_nil _ _ _ _, Below.refl _ _⟩
  case round =>
    obtain ⟨k, hk, rfl, ho, hb⟩ := hrel
    have HO := Lib.hid ho
    have HB := Lib.hid hb
    clear ho hb
    by_cases hlt : k < xs.length
    · obtain ⟨b, o, hA, hbs, hc⟩ := (H.out.below HB.out).at k hlt
      subst hA
      have hlk := (HV.out.kept (HB.out.block m HV.out.lt)).look Try.mapVars _ (HX.out _ (List.getElem_mem hlt))
      obtain ⟨y, hy⟩ : ∃ y, (s xs[k]).getD 0 = y := ⟨_, rfl⟩
      have HY := Lib.hid hy
      rw [hy] at hlk
      obtain ⟨x, hx⟩ : ∃ x, xs[k] = x := ⟨_, rfl⟩
      rw [hx] at hlk hc
      clear hy hx
      have hlen : ((xs.take k).map (getV s)).length ≤ 1000000 := by simp; omega
      go_wp2_with (at_builtin; refine wpList_append_ints rfl _ _ 27 rfl w.heap.size 3 Try.underlying27 Try.info3 _ ((xs.take k).map (getV s)) rfl (ownsRow_below HO.out ((Below.refl _ _).alloc (Nat.le_refl _) _)) _ 1 _ [y] rfl rfl (RI.one (by simp) (by simp [go_sem])) (by first | omega | (simp; done) | (simp; omega)) (by have := HB.out.size; simp; omega) ?_; intro v' w9 hown hgrow)
      have hob := HO.out.lt
      go_roundw
      case rel =>
        refine ⟨k + 1, by omega, by go_num, ?_, (HB.out.alloc HB.out.size _).grown hgrow (by have := HB.out.size; simp; omega) (fun j hj => (hob j hj).1)⟩
        have e : (xs.take (k + 1)).map (getV s) = (xs.take k).map (getV s) ++ [y] := by rw [take_snoc_eq xs k hlt, List.map_append]; simp [getV, HY.out]
        rw [e]; exact hown
      case measure => simp [intOf]; omega
    · have hkl : k = xs.length := by omega
      subst hkl
      go_wp2_with fail
      go_ret
      have := HO.out
      rw [List.take_length] at this
      exact ⟨_, rfl, HB.out, this⟩
inductive NextD where
  | spot (b i : Int)
  | done (e v : Int)
def NextD.v : NextD → Value
  | .spot b i => .iface 75 (.agg #[.int .i64 b, .int .i64 i])
  | .done e v => .iface 77 (.agg #[.int .i64 e, .int .i64 v])
def termD (s : ValF) (t : TermD) : NextD :=
  if t.kind = 3 then .done 1 (getV s t.a) else if t.kind = 4 then .done 2 0 else if t.kind = 2 ∧ getV s t.a = 0 then .spot t.t1 0 else .spot t.t0 0
def RetNext (x : NextD) (w : World) (e : Ending) (w' : World) : Prop := e = .returned x.v ∧ Below w.heap.size w w'
set_option maxRecDepth 100000 in
set_option maxHeartbeats 2000000 in
theorem term_any (w : World) (base p m n : Nat) (h : RunH) (f : FnD) (s : RunD) (t : TermD) (hr : RunAt w base p m n h f s) (ht : okI t.a) : Calls Try.prog 30 #[.pointer (some ⟨p, 0, none⟩), termV t] w (RetNext (termD s.vars t) w) := by
  have c0 := hr.c0
  have hpl : p < w.heap.size := lt_of_block hr.cell
  have hlk : ∀ k (o : Obj), (Instr.lookup 71 (.map (some m)) (.int .i64 t.a) false).run Try.prog ((w.alloc o).drewN k) = .ok (.int .i64 (getV s.vars t.a)) ((w.alloc o).drewN k) := fun k o => (hr.vars.kept (w' := (w.alloc o).drewN k) (Below.heap_alloc w o m hr.vars.lt)).look Try.mapVars _ ht
  obtain ⟨y, hy⟩ : ∃ y, getV s.vars t.a = y := ⟨_, rfl⟩
  have HY := Lib.hid hy
  simp only [hy] at hlk
  clear hr ht hy
  simp only [termV]
  go_enter Try.func30, Try.ntmps30
  by_cases h3 : t.kind = 3
  · have h3b : (t.kind == 3) = true := by simpa using h3
    have HT : Hid (termD s.vars t = .done 1 y) := Lib.hid (by unfold termD; rw [if_pos h3, HY.out])
    clear h3
    go_wp2_with fail
    go_quiet (fail)
    go_wp2
    go_ret
    rw [HT.out]
    exact ⟨rfl, below_dn ((Below.refl _ _).alloc (Nat.le_refl _) _) _⟩
  · have h3b : (t.kind == 3) = false := by simpa using h3
    by_cases h4 : t.kind = 4
    · have h4b : (t.kind == 4) = true := by simpa using h4
      have HT : Hid (termD s.vars t = .done 2 0) := Lib.hid (by unfold termD; rw [if_neg h3, if_pos h4])
      clear h3 h4
      go_wp2_with (go_at_call 42; refine (trap_any _).mono ?_; rintro e w' ⟨rfl, rfl⟩)
      go_ret
      rw [HT.out]
      exact ⟨rfl, (Below.refl _ _).alloc (Nat.le_refl _) _⟩
    · have h4b : (t.kind == 4) = false := by simpa using h4
      by_cases h2 : t.kind = 2
      · have h2b : (t.kind == 2) = true := by simpa using h2
        by_cases h0 : y = 0
        · have h0b : (y == 0) = true := by simpa using h0
          have HT : Hid (termD s.vars t = .spot t.t1 0) := Lib.hid (by unfold termD; rw [if_neg h3, if_neg h4, if_pos ⟨h2, by rw [HY.out]; exact h0⟩])
          clear h3 h4 h2 h0
          go_wp2_with fail
          go_quiet (fail)
          go_wp2
          go_ret
          rw [HT.out]
          exact ⟨rfl, below_dn ((Below.refl _ _).alloc (Nat.le_refl _) _) _⟩
        · have h0b : (y == 0) = false := by simpa using h0
          have HT : Hid (termD s.vars t = .spot t.t0 0) := Lib.hid (by unfold termD; rw [if_neg h3, if_neg h4, if_neg (fun h => h0 (by rw [← HY.out]; exact h.2))])
          clear h3 h4 h2 h0
          go_wp2_with fail
          go_quiet (fail)
          go_wp2
          go_ret
          rw [HT.out]
          exact ⟨rfl, below_dn ((Below.refl _ _).alloc (Nat.le_refl _) _) _⟩
      · have h2b : (t.kind == 2) = false := by simpa using h2
        have HT : Hid (termD s.vars t = .spot t.t0 0) := Lib.hid (by unfold termD; rw [if_neg h3, if_neg h4, if_neg (fun h => h2 h.1)])
        clear h3 h4 h2
        go_wp2_with fail
        go_quiet (fail)
        go_wp2
        go_ret
        rw [HT.out]
        exact ⟨rfl, below_dn ((Below.refl _ _).alloc (Nat.le_refl _) _) _⟩
end Go.Proofs.Ytnbmmfkkjceehaa
