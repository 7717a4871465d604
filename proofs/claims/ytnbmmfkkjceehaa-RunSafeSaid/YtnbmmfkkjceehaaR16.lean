/- Contract: run.Begin. -/
import Derived.Test.YtnbmmfkkjceehaaR15
import Derived.Test.YtnbmmfkkjceehaaA12
namespace Go.Proofs.Ytnbmmfkkjceehaa
set_option linter.unusedSimpArgs false
set_option linter.unusedVariables false
open Go.RowKit

def zipV (ps ag : List Int) : ValF := (ps.zip ag).foldl (fun s x => setV s x.1 x.2) (fun _ => none)
def runB (f : FnD) (ag mem ans : List Int) : RunD := ⟨zipV f.params ag, 0, 0, 0, 0, mem, ans, [], 0⟩
def runK (f : FnD) (mem ans ag : List Int) (k : Nat) : RunD := ⟨zipV (f.params.take k) ag, 0, 0, 0, 0, mem, ans, [], 0⟩
theorem runK_all (f : FnD) (mem ans ag : List Int) : runK f mem ans ag f.params.length = runB f ag mem ans := by unfold runK runB; rw [List.take_length]
def BeginOK (f : FnD) (ag mem : List Int) : Prop := rightI f = 0 ∧ ag.length = f.params.length ∧ mem.length ≤ 64
theorem zip_take_snoc : ∀ (ps ag : List Int) (k : Nat) (hp : k < ps.length) (ha : k < ag.length), (ps.take (k + 1)).zip ag = (ps.take k).zip ag ++ [(ps[k], ag[k])]
  | p :: ps, a :: ag, 0, _, _ => by simp
  | p :: ps, a :: ag, k + 1, hp, ha => by
    have := zip_take_snoc ps ag k (by simpa using hp) (by simpa using ha)
    simp [this]
theorem zipV_snoc (ps ag : List Int) (k : Nat) (hp : k < ps.length) (ha : k < ag.length) : zipV (ps.take (k + 1)) ag = setV (zipV (ps.take k) ag) ps[k] ag[k] := by
  unfold zipV
  rw [zip_take_snoc ps ag k hp ha, List.foldl_append]; rfl
def RetBegin (f : FnD) (ag mem ans : List Int) (w : World) (e : Ending) (w' : World) : Prop := Below w.heap.size w w' ∧
  ((¬ BeginOK f ag mem ∧ e = .returned (.tuple #[.pointer none, .int .i64 2])) ∨
   (BeginOK f ag mem ∧ ∃ p m n h, e = .returned (.tuple #[.pointer (some ⟨p, 0, none⟩), .int .i64 0]) ∧ RunAt w' w.heap.size p m n h f (runB f ag mem ans) ∧ n ≤ 8))
theorem small_of {f : FnD} (hl : longB f = false) (hw : wholeB f = true) : Small f :=
  ⟨(longB_blocks hl).2.2.1, (longB_blocks hl).2.1, (longB_blocks hl).2.2.2, wholeB_args hw⟩
theorem rightI_zero' {f : FnD} (h : rightI f = 0) : longB f = false ∧ wholeB f = true ∧ edgesOK f ∧ valuedB f = true := by
  unfold rightI at h
  cases h1 : longB f
  · cases h2 : wholeB f
    · rw [h1, h2] at h; simp at h
    · by_cases h3 : edgesOK f ∧ ∀ b, b < f.blocks.length → Reach f b
      · cases h4 : valuedB f
        · rw [h1, h2, h4, if_neg (by decide), if_neg (by decide), if_neg (fun x => x h3)] at h; simp at h
        · exact ⟨rfl, rfl, h3.1, rfl⟩
      · rw [h1, h2, if_neg (by decide), if_neg (by decide), if_pos h3] at h; simp at h
  · rw [h1] at h; simp at h
set_option maxRecDepth 100000 in
set_option maxHeartbeats 4000000 in
theorem begin_any (w : World) (A : Option Addr) (c : Nat) (B : Option Addr) (d : Nat) (f : FnD) (X : Option Addr) (cx nx : Nat) (ag : List Int) (Y : Option Addr) (cy ny : Nat) (mem : List Int) (Z : Option Addr) (cz nz : Nat) (ans : List Int)
    (hp : RI w A c f.params) (h : RBlk w B d f.blocks) (hx : RI w X cx ag) (hnx : ag.length = nx) (hy : RI w Y cy mem) (hny : mem.length = ny) (hz : RI w Z cz ans) (hnz : ans.length = nz) (hfw : FnW f) (hax : ∀ v ∈ ag, okI v) (hzb : ans.length ≤ 1000000) :
    Calls Try.prog 14 #[fnV A c B d f, .slice X nx cx, .slice Y ny cy, .slice Z nz cz] w (RetBegin f ag mem ans w) := by
  subst hnx hny hnz
  have hpbig := hp.big
  have hbbig := h.big
  have hxbig := hx.big
  have hybig := hy.big
  have H := Lib.hid h
  have Hp := Lib.hid hp
  have Hx := Lib.hid hx
  have Hy := Lib.hid hy
  have Hz := Lib.hid hz
  have HFW := Lib.hid hfw
  have HAx := Lib.hid hax
  clear h hp hx hy hz hfw hax
  simp only [fnV]
  obtain ⟨w0, hw0⟩ : ∃ w0 : World, w0 = w.alloc (.cells #[.slice A f.params.length c, .slice B f.blocks.length d] 30) := ⟨_, rfl⟩
  have hb0 : Below w.heap.size w w0 := by rw [hw0]; go_grown
  have hz0 : w0.heap.size = w.heap.size + 1 := by rw [hw0]; simp
  have HB0 := Lib.hid hb0
  have Hz0 := Lib.hid hz0
  have HK : Hid (∀ wr, Below (w.heap.size + 1) w0 wr → wr.cell? ⟨w.heap.size, 0, none⟩ = some (.slice A f.params.length c) ∧ wr.cell? ⟨w.heap.size, 1, none⟩ = some (.slice B f.blocks.length d)) := Lib.hid (fun wr hb => by
    have d0 := hb.cell (p := ⟨w.heap.size, 0, none⟩) (by simp)
    have d1 := hb.cell (p := ⟨w.heap.size, 1, none⟩) (by simp)
    rw [hw0] at d0 d1
    simp only [World.cell?_alloc_new, List.getElem?_toArray, List.getElem?_cons_zero, List.getElem?_cons_succ] at d0 d1
    exact ⟨d0, d1⟩)
  clear hb0 hz0
  go_enter Try.func14, Try.ntmps14
  by_cases hok : BeginOK f ag mem
  · obtain ⟨hr0, hal, hml⟩ := hok
    have HOK : Hid (BeginOK f ag mem) := Lib.hid ⟨hr0, hal, hml⟩
    obtain ⟨hl, hwh, hE, hV⟩ := rightI_zero' hr0
    have HSM := Lib.hid (small_of hl hwh)
    have hp8 := HSM.out.params
    have Hr0 := Lib.hid hr0
    clear hr0 hl hwh hE hV
    have hb1 : ((ag.length : Int) != (f.params.length : Int)) = false := by rw [hal]; simp
    have Hal := Lib.hid hal
    clear hal
    go_upto_region 3 with (go_at_call 26; rw [← hw0]; refine (right_any _ A c B d f (Hp.out.below HB0.out) (H.out.below HB0.out)).mono ?_; rintro e w1 ⟨rfl, hb⟩; rw [Hr0.out]; have HX1 : Hid (Below (w.heap.size + 1) w0 w1) := Lib.hid (by rw [← Hz0.out]; exact hb); obtain ⟨d0, d1⟩ := HK.out _ HX1.out; clear hb)
    have hpl1 : w.heap.size < w1.heap.size := by have := HX1.out.size; have := Hz0.out; omega
    obtain ⟨w2, hw2⟩ : ∃ w2 : World, w2 = w1.alloc (.map #[] 0) := ⟨_, rfl⟩
    have hb2 : Below w1.heap.size w1 w2 := by rw [hw2]; exact (Below.refl _ _).alloc (Nat.le_refl _) _
    have hv2 : VarsAt w2 w1.heap.size 0 (fun _ => none) := by rw [hw2]; exact VarsAt.made w1
    have hz2 : w2.heap.size = w1.heap.size + 1 := by rw [hw2]; simp
    have Hz2 := Lib.hid hz2
    have HX2 : Hid (Below (w.heap.size + 1) w0 w2) := Lib.hid (HX1.out.trans (hb2.mono (by have := HX1.out.size; have := Hz0.out; omega)))
    have HB2 : Hid (Below w.heap.size w w2) := Lib.hid (HB0.out.trans (HX2.out.mono (by have := Hz0.out; omega)))
    have HV2 := Lib.hid hv2
    have hmm := @run_makeMap Try.prog
    clear hb2 hv2 hz2
    go_wp2_with (first
      | (go_at_call 27; rw [← hw2]; refine (copied_any _ A c B d f (Hp.out.below HB2.out) (H.out.below HB2.out) HSM.out).mono ?_; rintro e w3 ⟨A3, c3, B3, d3, rfl, hb3, hq3, hk3⟩; have HB3 := Lib.hid hb3; have HQ3 := Lib.hid hq3; have HK3 := Lib.hid hk3; simp only [fnV]; clear hb3 hq3 hk3))
    have hs3 := HB3.out.size
    refine (clone_any _ Y cy mem (Hy.out.below (HB2.out.trans (HB3.out.mono HB2.out.size))) (by omega)).mono ?_
    rintro e w4 ⟨v4, rfl, hb4, ho4⟩
    obtain ⟨M, mc, rfl, _⟩ := own_slice ho4
    have HO4 : Hid (w4.ownsRow w3.heap.size 3 1 (.slice M mem.length mc) mem.length (mem.map (Value.int .i64))) := Lib.hid ho4
    have HB4 := Lib.hid hb4
    clear hb4 ho4
    go_wp2_with fail
    have hs4 := HB4.out.size
    refine (clone_any _ Z cz ans (Hz.out.below ((HB2.out.trans (HB3.out.mono HB2.out.size)).trans (HB4.out.mono (by have := HB2.out.size; omega)))) (by omega)).mono ?_
    rintro e w5 ⟨v5, rfl, hb5, ho5⟩
    obtain ⟨N, nc, rfl, hq5⟩ := RIQ.of_own ho5 (by omega)
    have HQ5 := Lib.hid hq5
    have HB5 := Lib.hid hb5
    have hs5 := HB5.out.size
    clear hb5 ho5 hq5
    obtain ⟨h, hh⟩ : ∃ h : RunH, h = ⟨A3, c3, B3, d3, M, mc, N, nc, none, 0⟩ := ⟨_, rfl⟩
    have HX5 : Hid (Below (w.heap.size + 1) w0 w5) := Lib.hid (((HX2.out.trans (HB3.out.mono (by have := HX2.out.size; have := Hz0.out; omega))).trans (HB4.out.mono (by have := HX2.out.size; have := Hz0.out; omega))).trans (HB5.out.mono (by have := HX2.out.size; have := Hz0.out; omega)))
    obtain ⟨d0', d1'⟩ := HK.out _ HX5.out
    have hlt5 : w.heap.size < w5.heap.size := by have := Hz2.out; omega
    clear d0 d1
    go_upto_block 0 with fail
    obtain ⟨W6, hW6⟩ : ∃ W6 : World, W6 = w5.alloc (.cells #[.map (some w1.heap.size), .int .i64 0, .int .i64 0, .int .i64 0, .int .i64 0, .slice A3 f.params.length c3, .slice B3 f.blocks.length d3, .slice M mem.length mc, .slice N ans.length nc, .slice none 0 0, .int .i64 0] 79) := ⟨_, rfl⟩
    have hb6 : Below w5.heap.size w5 W6 := by rw [hW6]; exact (Below.refl _ _).alloc (Nat.le_refl _) _
    have HX6 : Hid (Below (w.heap.size + 1) w0 W6) := Lib.hid (HX5.out.trans (hb6.mono (by omega)))
    have hc6 : W6.heap[w5.heap.size]? = some (.cells (runC w1.heap.size h f (runK f mem ans ag 0)) 79 (0, 0)) := by rw [hW6, hh]; exact heap_alloc_new w5 _
    have hft : ∀ b, Foot w5.heap.size w1.heap.size h b → b = w5.heap.size ∨ b = w1.heap.size ∨ (Value.slice M 0 0).ownBlock = some b := fun b hb => by
      rw [hh] at hb
      rcases hb with hb | hb | hb | hb
      · exact .inl hb
      · exact .inr (.inl hb)
      · exact .inr (.inr hb)
      · simp [Value.ownBlock] at hb
    have hMl : ∀ b, (Value.slice M 0 0).ownBlock = some b → w3.heap.size ≤ b ∧ b < w4.heap.size := fun b hb => HO4.out.lt b (by rw [own_blk]; exact hb)
    have hk46 : Below w4.heap.size w4 W6 := HB5.out.trans (hb6.mono hs5)
    have hk36 : Below w3.heap.size w3 W6 := HB4.out.trans (hk46.mono hs4)
    have hr6 : RunAt W6 w.heap.size w5.heap.size w1.heap.size 0 h f (runK f mem ans ag 0) := by
      refine ⟨hc6, by omega, by omega, ?_, ?_, ?_, ?_, ?_, ?_⟩
      · have : zipV (f.params.take 0) ag = fun _ => none := by unfold zipV; simp
        show VarsAt W6 _ 0 (zipV (f.params.take 0) ag)
        rw [this]
        exact HV2.out.kept ((hk36.block _ (by have := Hz2.out; omega)).trans (HB3.out.block _ (by have := Hz2.out; omega)))
      · have : RIQ (fun b => ¬ Foot w5.heap.size w1.heap.size h b) w3 A3 c3 f.params := HQ3.out.imp (fun b hb hq hf => by
          rcases hft b hf with rfl | rfl | hm
          · omega
          · have := Hz2.out; omega
          · have := (hMl b hm).1; omega)
        rw [hh] at *; exact this.keep (.below hk36)
      · have : RBlkQ (fun b => ¬ Foot w5.heap.size w1.heap.size h b) w3 B3 d3 f.blocks := HK3.out.imp (fun b hb hq hf => by
          rcases hft b hf with rfl | rfl | hm
          · omega
          · have := Hz2.out; omega
          · have := (hMl b hm).1; omega)
        rw [hh] at *; exact this.keep (.below hk36)
      · rw [hh]; exact ownsRow_weaken (ownsRow_below HO4.out hk46) (by have := HB2.out.size; omega)
      · have : RIQ (fun b => ¬ Foot w5.heap.size w1.heap.size h b) w5 N nc ans := HQ5.out.imp (fun b hb hq hf => by
          rcases hft b hf with rfl | rfl | hm
          · omega
          · have := Hz2.out; omega
          · have := (hMl b hm).2; omega)
        rw [hh] at *; exact this.keep (.below hb6)
      · rw [hh]; exact ⟨[], fun _ => (none, 0), World.ownsRow_nil _ _ _ _, ⟨rfl, fun j x h => by simp [runK] at h⟩, fun j x h => by simp [runK] at h⟩
    have HR6 := Lib.hid hr6
    have hz6 : w5.heap.size ≤ W6.heap.size := hb6.size
    obtain ⟨d0, d1⟩ := HK.out _ HX6.out
    rw [← hW6]
    clear hW6 hb6 hc6 hft hMl hk46 hk36 hr6 d0' d1'
    go_wp2_with fail
    go_loopw [41] (fun kv wr => ∃ k : Nat, k ≤ f.params.length ∧ kv = .int .i64 k ∧ RunAt wr w.heap.size w5.heap.size w1.heap.size k h f (runK f mem ans ag k) ∧ Below w.heap.size w wr) (fun kv _ => f.params.length - (intOf kv).toNat)
    case atStart => exact ⟨0, Nat.zero_le _, rfl, HR6.out, HB0.out.trans (HX6.out.mono (by omega))⟩
    case round =>
      obtain ⟨k, hk, rfl, hr, hb⟩ := hrel
      have HR := Lib.hid hr
      have HB := Lib.hid hb
      have c0 := hr.c0
      clear hr hb
      by_cases hlt : k < f.params.length
      · have hka : k < ag.length := by rw [Hal.out]; exact hlt
        obtain ⟨b, o, hA, hbs, hc⟩ := (Hp.out.below HB.out).at k hlt
        obtain ⟨b2, o2, hX, hbs2, hc2⟩ := (Hx.out.below HB.out).at k hka
        subst hA hX
        have hpk : okI f.params[k] := okI_of (HFW.out.params _ (List.getElem_mem hlt))
        have hak : okI ag[k] := HAx.out _ (List.getElem_mem hka)
        have hzs : Hid (zipV (f.params.take (k + 1)) ag = setV (zipV (f.params.take k) ag) f.params[k] ag[k]) := Lib.hid (zipV_snoc f.params ag k hlt hka)
        obtain ⟨x, hx⟩ : ∃ x, f.params[k] = x := ⟨_, rfl⟩
        obtain ⟨y, hy⟩ : ∃ y, ag[k] = y := ⟨_, rfl⟩
        rw [hx] at hc hpk hzs
        rw [hy] at hc2 hak hzs
        clear hx hy
        go_upto_region 7 with fail
        refine wp_region_gated (fun w' => w'.cell? ⟨w5.heap.size, 0, none⟩ = some (.map (some w1.heap.size)) ∧ w'.cell? ⟨b2, o2 + k, none⟩ = some (.int .i64 y)) 9 (by kernel_rfl) ⟨c0, hc2⟩ (fun hHeld => ?_)
        refine wpAnyG_take 0 (v := ?_) rfl (by kernel_rfl) (by kernel_rfl) (by kernel_rfl) (by kernel_rfl) (by kernel_rfl) (by kernel_rfl) (fun _ _ _ h => h) (Or.inl ⟨by rfl, ?_⟩) (by assumption) ?_
        rotate_left
        · (intro w hSw; (try dsimp only at hSw); go_simp; (try with_reducible rfl))
        try simp only [Act.put, List.getElem_toArray, List.getElem_cons_zero, List.getElem_cons_succ, List.setIfInBounds_toArray, List.set_cons_zero, List.set_cons_succ]
        refine wpAnyG_take 1 (v := ?_) rfl (by kernel_rfl) (by kernel_rfl) (by kernel_rfl) (by kernel_rfl) (by kernel_rfl) (by kernel_rfl) (fun _ _ _ h => h) (Or.inl ⟨by rfl, ?_⟩) (by assumption) ?_
        rotate_left
        · (intro w hSw; (try dsimp only at hSw); go_simp; (try with_reducible rfl))
        try simp only [Act.put, List.getElem_toArray, List.getElem_cons_zero, List.getElem_cons_succ, List.setIfInBounds_toArray, List.set_cons_zero, List.set_cons_succ]
        refine wpAnyG_take 2 (v := ?_) rfl (by kernel_rfl) (by kernel_rfl) (by kernel_rfl) (by kernel_rfl) (by kernel_rfl) (by kernel_rfl) (fun _ _ _ h => h) (Or.inl ⟨by rfl, ?_⟩) (by assumption) ?_
        rotate_left
        · (intro w hSw; (try dsimp only at hSw); go_simp; (try with_reducible rfl))
        try simp only [Act.put, List.getElem_toArray, List.getElem_cons_zero, List.getElem_cons_succ, List.setIfInBounds_toArray, List.set_cons_zero, List.set_cons_succ]
        refine wpAnyG_take 3 (v := ?_) rfl (by kernel_rfl) (by kernel_rfl) (by kernel_rfl) (by kernel_rfl) (by kernel_rfl) (by kernel_rfl) (fun _ _ _ h => h) (Or.inl ⟨by rfl, ?_⟩) (by assumption) ?_
        rotate_left
        · (intro w hSw; (try dsimp only at hSw); go_simp; (try with_reducible rfl))
        try simp only [Act.put, List.getElem_toArray, List.getElem_cons_zero, List.getElem_cons_succ, List.setIfInBounds_toArray, List.set_cons_zero, List.set_cons_succ]
        refine wpAnyG_take 4 (v := ?_) rfl (by kernel_rfl) (by kernel_rfl) (by kernel_rfl) (by kernel_rfl) (by kernel_rfl) (by kernel_rfl) (fun _ _ _ h => h) (Or.inl ⟨by rfl, ?_⟩) (by assumption) ?_
        rotate_left
        · (intro w hSw; (try dsimp only at hSw); go_simp; (try with_reducible rfl))
        try simp only [Act.put, List.getElem_toArray, List.getElem_cons_zero, List.getElem_cons_succ, List.setIfInBounds_toArray, List.set_cons_zero, List.set_cons_succ]
        refine wpAnyG_take 5 (v := ?_) rfl (by kernel_rfl) (by kernel_rfl) (by kernel_rfl) (by kernel_rfl) (by kernel_rfl) (by kernel_rfl) (fun _ _ _ h => h) (Or.inl ⟨by rfl, ?_⟩) (by assumption) ?_
        rotate_left
        · (intro w hSw; (try dsimp only at hSw); go_simp; (try with_reducible rfl))
        try simp only [Act.put, List.getElem_toArray, List.getElem_cons_zero, List.getElem_cons_succ, List.setIfInBounds_toArray, List.set_cons_zero, List.set_cons_succ]
        refine wpAnyG_take 6 (v := ?_) rfl (by kernel_rfl) (by kernel_rfl) (by kernel_rfl) (by kernel_rfl) (by kernel_rfl) (by kernel_rfl) (fun _ _ _ h => h) (Or.inl ⟨by rfl, ?_⟩) (by assumption) ?_
        rotate_left
        · (intro w hSw; (try dsimp only at hSw); go_simp; (try with_reducible rfl))
        try simp only [Act.put, List.getElem_toArray, List.getElem_cons_zero, List.getElem_cons_succ, List.setIfInBounds_toArray, List.set_cons_zero, List.set_cons_succ]
        refine wpAnyG_take 7 (v := ?_) rfl (by kernel_rfl) (by kernel_rfl) (by kernel_rfl) (by kernel_rfl) (by kernel_rfl) (by kernel_rfl) (fun _ _ _ h => h) (Or.inl ⟨by rfl, ?_⟩) (by assumption) ?_
        rotate_left
        · (intro w hSw; (try dsimp only at hSw); go_simp; (try with_reducible rfl))
        try simp only [Act.put, List.getElem_toArray, List.getElem_cons_zero, List.getElem_cons_succ, List.setIfInBounds_toArray, List.set_cons_zero, List.set_cons_succ]
        refine wpAnyG_take 8 (v := ?_) rfl (by kernel_rfl) (by kernel_rfl) (by kernel_rfl) (by kernel_rfl) (by kernel_rfl) (by kernel_rfl) (fun _ _ _ h => h) (Or.inl ⟨by rfl, ?_⟩) (by assumption) ?_
        rotate_left
        · (intro w hSw; (try dsimp only at hSw); go_simp; (try with_reducible rfl))
        try simp only [Act.put, List.getElem_toArray, List.getElem_cons_zero, List.getElem_cons_succ, List.setIfInBounds_toArray, List.set_cons_zero, List.set_cons_succ]
        refine wpAnyG_past 9 (by kernel_rfl) rfl (by kernel_rfl) (fun K hK => ?_)
        refine wanted_go rfl ?_
        refine wp_put _ _ _ 71 rfl Try.mapVars w1.heap.size k (runK f mem ans ag k).vars rfl (HR.out.vars.kept (w' := wr.drew) rfl) (by unfold maxLen; omega) x y rfl rfl hpk hak ?_
        intro w7 hv7 hg7
        have hp7 := (HR.out.below (w' := wr.drew) (Below.refl _ _).drew).varPut x y hv7 hg7
        have HR7 := Lib.hid hp7.1
        have HT7 : Hid (Turn wr w7 w5.heap.size w1.heap.size h h) := Lib.hid (Turn.trans (.below (Below.refl _ _).drew) hp7.2)
        clear hp7 hv7 hg7
        refine hK.out _ _ ?_
        clear hK K
        try simp only [Act.put, List.getElem_toArray, List.getElem_cons_zero, List.getElem_cons_succ, List.setIfInBounds_toArray, List.set_cons_zero, List.set_cons_succ]
        refine wpAnyG_done (by kernel_rfl) ?_ _
        go_wp2_with fail
        go_roundw
        case rel =>
          have e : runK f mem ans ag (k + 1) = { runK f mem ans ag k with vars := setV (runK f mem ans ag k).vars x y } := by
            show RunD.mk _ _ _ _ _ _ _ _ _ = RunD.mk _ _ _ _ _ _ _ _ _
            rw [hzs.out]; rfl
          refine ⟨k + 1, by omega, by go_num, (by rw [e]; exact HR7.out), HB.out.trans (HT7.out.toBelow HR.out HB.out.size)⟩
        case measure => simp [intOf]; omega
      · have he : k = f.params.length := by omega
        subst he
        go_wp2
        go_ret2
        have := HR.out
        rw [runK_all] at this
        exact ⟨HB.out, .inr ⟨HOK.out, _, _, _, h, rfl, this, hp8⟩⟩
  · have HN := Lib.hid hok
    by_cases hr0 : rightI f = 0
    · by_cases hal : ag.length = f.params.length
      · have hml : ¬ mem.length ≤ 64 := fun h => hok ⟨hr0, hal, h⟩
        have hb1 : ((ag.length : Int) != (f.params.length : Int)) = false := by rw [hal]; simp
        have hb2 : decide ((mem.length : Int) > 64) = true := by simp; omega
        have Hr0 := Lib.hid hr0
        clear hr0 hal hml hok
        go_wp2_with (go_at_call 26; rw [← hw0]; refine (right_any _ A c B d f (Hp.out.below HB0.out) (H.out.below HB0.out)).mono ?_; rintro e w1 ⟨rfl, hb⟩; rw [Hr0.out]; have HX1 : Hid (Below (w.heap.size + 1) w0 w1) := Lib.hid (by rw [← Hz0.out]; exact hb); obtain ⟨d0, d1⟩ := HK.out _ HX1.out; clear hb)
        go_ret2
        exact ⟨HB0.out.trans (HX1.out.mono (by omega)), .inl ⟨HN.out, rfl⟩⟩
      · have hb1 : ((ag.length : Int) != (f.params.length : Int)) = true := by simp; omega
        have Hr0 := Lib.hid hr0
        clear hr0 hal hok
        go_wp2_with (go_at_call 26; rw [← hw0]; refine (right_any _ A c B d f (Hp.out.below HB0.out) (H.out.below HB0.out)).mono ?_; rintro e w1 ⟨rfl, hb⟩; rw [Hr0.out]; have HX1 : Hid (Below (w.heap.size + 1) w0 w1) := Lib.hid (by rw [← Hz0.out]; exact hb); obtain ⟨d0, d1⟩ := HK.out _ HX1.out; clear hb)
        go_ret2
        exact ⟨HB0.out.trans (HX1.out.mono (by omega)), .inl ⟨HN.out, rfl⟩⟩
    · have hb0 : (rightI f != 0) = true := by simpa using hr0
      clear hr0 hok
      go_wp2_with (go_at_call 26; rw [← hw0]; refine (right_any _ A c B d f (Hp.out.below HB0.out) (H.out.below HB0.out)).mono ?_; rintro e w1 ⟨rfl, hb⟩; have HX1 : Hid (Below (w.heap.size + 1) w0 w1) := Lib.hid (by rw [← Hz0.out]; exact hb); clear hb)
      go_ret2
      exact ⟨HB0.out.trans (HX1.out.mono (by omega)), .inl ⟨HN.out, rfl⟩⟩
end Go.Proofs.Ytnbmmfkkjceehaa
