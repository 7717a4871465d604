/- Contracts: SameInts, sameCalls. -/
import Derived.Test.YtnbmmfkkjceehaaR22
namespace Go.Proofs.Ytnbmmfkkjceehaa
set_option linter.unusedSimpArgs false
set_option linter.unusedVariables false
open Go.RowKit

def RetDn (b : Bool) (w : World) (e : Ending) (w' : World) : Prop := e = .returned (.bool b) ∧ ∃ j, w' = w.drewN j
theorem dn_more {w wr : World} (h : ∃ j, wr = w.drewN j) (n : Nat) : ∃ j, wr.drewN n = w.drewN j := by
  obtain ⟨j, rfl⟩ := h
  exact ⟨_, World.drewN_drewN _ _ _⟩
theorem dn_below {w wr : World} (h : ∃ j, wr = w.drewN j) : Below w.heap.size w wr := by
  obtain ⟨j, rfl⟩ := h
  exact below_dn (Below.refl _ _) _
set_option maxHeartbeats 4000000 in
theorem sameInts_any (w : World) (A : Option Addr) (c n : Nat) (xs : List Int) (B : Option Addr) (d m : Nat) (ys : List Int) (hx : RI w A c xs) (hn : xs.length = n) (hy : RI w B d ys) (hm : ys.length = m) :
    Calls Try.prog 13 #[.slice A n c, .slice B m d] w (RetDn (decide (xs = ys)) w) := by
  subst hn hm
  have hxb := hx.big
  have hyb := hy.big
  have Hx := Lib.hid hx
  have Hy := Lib.hid hy
  clear hx hy
  go_enter Try.func13, Try.ntmps13
  by_cases hl : xs.length = ys.length
  · have hlb : ((xs.length : Int) != (ys.length : Int)) = false := by rw [hl]; simp
    go_wp2_with fail
    go_loopw [5] (fun kv wr => ∃ k : Nat, k ≤ xs.length ∧ kv = .int .i64 k ∧ Hid (xs.take k = ys.take k) ∧ Hid (∃ j, wr = w.drewN j)) (fun kv _ => xs.length - (intOf kv).toNat)
    case atStart => exact ⟨0, Nat.zero_le _, rfl, Lib.hid (by simp), Lib.hid ⟨0, rfl⟩⟩
    case round =>
      obtain ⟨k, hk, rfl, HT, HDN⟩ := hrel
      have HB := Lib.hid (dn_below HDN.out)
      by_cases hlt : k < xs.length
      · obtain ⟨b, o, hA, hbs, hc⟩ := (Hx.out.below HB.out).at k hlt
        obtain ⟨b2, o2, hB, hbs2, hc2⟩ := (Hy.out.below HB.out).at k (hl ▸ hlt)
        have hky : k < ys.length := hl ▸ hlt
        subst hA hB
        have HS : Hid (xs.take (k + 1) = xs.take k ++ [xs[k]] ∧ ys.take (k + 1) = ys.take k ++ [ys[k]]) := Lib.hid ⟨take_snoc_eq xs k hlt, take_snoc_eq ys k hky⟩
        have HD : Hid (xs[k] ≠ ys[k] → xs ≠ ys) := Lib.hid (fun h e => h (by subst e; rfl))
        obtain ⟨x, hx⟩ : ∃ x, xs[k] = x := ⟨_, rfl⟩
        obtain ⟨y, hy⟩ : ∃ y, ys[k] = y := ⟨_, rfl⟩
        rw [hx, hy] at HS HD
        rw [hx] at hc
        rw [hy] at hc2
        clear hx hy
        by_cases he : x = y
        · subst he
          have hxx : (x != x) = false := by simp
          go_wp2_with fail
          go_quiet (fail)
          go_wp2_with fail
          go_roundw
          case rel => exact ⟨k + 1, by omega, by go_num, Lib.hid (by rw [HS.out.1, HS.out.2, HT.out]), Lib.hid (dn_more HDN.out _)⟩
          case measure => simp [intOf]; omega
        · have hxx : (x != y) = true := by simpa using he
          go_wp2_with fail
          go_quiet (fail)
          go_wp2_with fail
          go_ret
          exact ⟨by rw [decide_eq_false (HD.out he)]; rfl, dn_more HDN.out _⟩
      · have he : xs = ys := by
          have h := HT.out
          rwa [List.take_of_length_le (by omega), List.take_of_length_le (by omega)] at h
        go_wp2_with fail
        go_ret
        exact ⟨by rw [decide_eq_true he]; rfl, HDN.out⟩
  · have hlb : ((xs.length : Int) != (ys.length : Int)) = true := by simp; omega
    have hne : xs ≠ ys := fun e => hl (by rw [e])
    go_wp2_with fail
    go_ret
    exact ⟨by rw [decide_eq_false hne]; rfl, 0, rfl⟩
deriving instance DecidableEq for CallD
set_option maxHeartbeats 4000000 in
set_option maxRecDepth 100000 in
theorem sameCalls_any (w : World) (A : Option Addr) (c n : Nat) (xs : List CallD) (B : Option Addr) (d m : Nat) (ys : List CallD) (hx : RCalls w A c xs) (hn : xs.length = n) (hy : RCalls w B d ys) (hm : ys.length = m) (hxb : xs.length ≤ 1000000) (hyb : ys.length ≤ 1000000) :
    Calls Try.prog 12 #[.slice A n c, .slice B m d] w (RetDn (decide (xs = ys)) w) := by
  subst hn hm
  have Hx := Lib.hid hx
  have Hy := Lib.hid hy
  clear hx hy
  go_enter Try.func12, Try.ntmps12
  by_cases hl : xs.length = ys.length
  · have hlb : ((xs.length : Int) != (ys.length : Int)) = false := by rw [hl]; simp
    have HL := Lib.hid hl
    clear hl
    go_wp2_with fail
    go_loopw [5] (fun kv wr => ∃ k : Nat, k ≤ xs.length ∧ kv = .int .i64 k ∧ Hid (xs.take k = ys.take k) ∧ Hid (∃ j, wr = w.drewN j)) (fun kv _ => xs.length - (intOf kv).toNat)
    case atStart => exact ⟨0, Nat.zero_le _, rfl, Lib.hid (by simp), Lib.hid ⟨0, rfl⟩⟩
    case round =>
      obtain ⟨k, hk, rfl, HT, HDN⟩ := hrel
      have HB := Lib.hid (dn_below HDN.out)
      by_cases hlt : k < xs.length
      · have hky : k < ys.length := HL.out ▸ hlt
        obtain ⟨b, o, A', c', hA, hbs, hc0, hc1, hri⟩ := (Hx.out.below HB.out).get k _ (List.getElem?_eq_getElem hlt)
        obtain ⟨b2, o2, B', d', hB, hbs2, hd0, hd1, hrj⟩ := (Hy.out.below HB.out).get k _ (List.getElem?_eq_getElem hky)
        subst hA hB
        have HS : Hid (xs.take (k + 1) = xs.take k ++ [xs[k]] ∧ ys.take (k + 1) = ys.take k ++ [ys[k]]) := Lib.hid ⟨take_snoc_eq xs k hlt, take_snoc_eq ys k hky⟩
        have HD : Hid (xs[k] ≠ ys[k] → xs ≠ ys) := Lib.hid (fun h e => h (by subst e; rfl))
        obtain ⟨x, hx⟩ : ∃ x, xs[k] = x := ⟨_, rfl⟩
        obtain ⟨y, hy⟩ : ∃ y, ys[k] = y := ⟨_, rfl⟩
        rw [hx, hy] at HS HD
        rw [hx] at hc0 hc1 hri
        rw [hy] at hd0 hd1 hrj
        have HI := Lib.hid hri
        have HJ := Lib.hid hrj
        clear hx hy hri hrj
        by_cases he : x.callee = y.callee
        · have hxx : (x.callee != y.callee) = false := by simp [he]
          have HE := Lib.hid he
          clear he
          obtain ⟨q, hq⟩ : ∃ q, decide (x.args = y.args) = q := ⟨_, rfl⟩
          have HQ := Lib.hid hq
          clear hq
          go_wp2_with fail
          go_region_held3 (fun w' => w'.cell? ⟨b, o + k * 2, none⟩ = some (.int .i64 x.callee) ∧ w'.cell? ⟨b, o + k * 2 + 1, none⟩ = some (.slice A' x.args.length c') ∧ w'.cell? ⟨b2, o2 + k * 2, none⟩ = some (.int .i64 y.callee) ∧ w'.cell? ⟨b2, o2 + k * 2 + 1, none⟩ = some (.slice B' y.args.length d')) (go_keep) (first | (go_at_call 13; refine (sameInts_any _ A' c' _ x.args B' d' _ y.args (HI.out.below (by go_grown)) rfl (HJ.out.below (by go_grown)) rfl).mono ?_; rintro e w' ⟨rfl, j2, rfl⟩; rw [HQ.out]))
          cases q
          · go_wp2_with fail
            go_ret
            exact ⟨by rw [decide_eq_false (HD.out (fun e => of_decide_eq_false HQ.out (by rw [e])))]; rfl, dn_more HDN.out _⟩
          · go_wp2_with fail
            go_roundw
            case rel =>
              have hxy : x = y := by
                have h1 := HE.out
                have h2 := of_decide_eq_true HQ.out
                cases x; cases y; simp at h1 h2; subst h1 h2; rfl
              exact ⟨k + 1, by omega, by go_num, Lib.hid (by rw [HS.out.1, HS.out.2, HT.out, hxy]), Lib.hid (dn_more HDN.out _)⟩
            case measure => simp [intOf]; omega
        · have hxx : (x.callee != y.callee) = true := by simpa using he
          go_wp2_with fail
          go_quiet (fail)
          go_wp2_with fail
          go_ret
          exact ⟨by rw [decide_eq_false (HD.out (fun e => he (by rw [e])))]; rfl, dn_more HDN.out _⟩
      · have he : Hid (xs = ys) := Lib.hid (by
          have h := HT.out
          rwa [List.take_of_length_le (by omega), List.take_of_length_le (by have := HL.out; omega)] at h)
        go_wp2_with fail
        go_ret
        exact ⟨by rw [decide_eq_true he.out]; rfl, HDN.out⟩
  · have hlb : ((xs.length : Int) != (ys.length : Int)) = true := by simp; omega
    have hne : xs ≠ ys := fun e => hl (by rw [e])
    go_wp2_with fail
    go_ret
    exact ⟨by rw [decide_eq_false hne]; rfl, 0, rfl⟩
end Go.Proofs.Ytnbmmfkkjceehaa
