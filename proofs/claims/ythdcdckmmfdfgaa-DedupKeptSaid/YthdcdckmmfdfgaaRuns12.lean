/- concordlaw12's runs: is, found, DedupRuns. -/
import Derived.Test.YthdcdckmmfdfgaaReplies
import Derived.Test.YthdcdckmmfdfgaaRegion
set_option linter.unusedVariables false
set_option linter.unusedSimpArgs false
namespace Go.Proofs.Ythdcdckmmfdfgaa
open Go.RowKit

set_option maxRecDepth 10000 in
set_option maxHeartbeats 1000000 in
theorem is69 (vs : List OV) (client seq k : Int) (rep r : Rep) (a : Option Addr) (n c : Nat) (w : World) (hok : ∀ v ∈ vs, v.ok w 0) (h8 : vs.length = 8) (h : PS w 0 a n c r.ps)
    (H : ∀ w', (∀ v ∈ vs, v.ok w' 0) → Calls Try.prog 16 #[.agg (ovCells vs).toArray, .int .i64 client, .int .i64 seq] w' (RetLook w'.heap.size k rep w')) :
    Calls Try.prog 69 #[.agg (ovCells vs).toArray, .int .i64 client, .int .i64 seq, .int .i64 k, .agg #[.int .i64 r.why, .bool r.found, .string r.val, .int .i64 r.ver, .slice a n c]] w
      (RetB w.heap.size (rep.same r) w) := by
  have hsz48 := Lib.hid (ovCells_48 h8)
  have HH := Lib.hid H
  clear H h8
  go_enter Try.func69, Try.ntmps69
  go_wp2_with (first | (refine wpList_load_row rfl 29 _ rfl w.heap.size rfl 29 (ovCells vs).toArray (0, 0) _ ((Blk.new w _ _).alloc _) Try.underlying29 rfl hsz48.out ?_))
  refine (HH.out _ (fun v hv => PS.alloc (PS.alloc (hok v hv) _) _)).mono ?_
  rintro e w1 ⟨a1, n1, c1, rfl, hp, hb⟩
  have hp' : PS w1 0 a1 n1 c1 rep.ps := hp.mono (by simp)
  have hb0 : Below (w.heap.size + 2) _ w1 := hb.mono (by simp)
  have hb1 : Below w.heap.size w w1 := by refine Below.trans ?_ (hb0.mono (by omega)); exact (by repeat (first | (with_reducible exact Below.refl _ _) | (with_reducible assumption) | (with_reducible refine Below.setCell ?_ (by first | omega | (simp; done) | (simp; omega)) _) | (with_reducible refine Below.alloc ?_ (by first | omega | (simp; done) | (simp; omega)) _) | (with_reducible refine below_setRow ?_ (by first | omega | (simp; done) | (simp; omega)) _) | (with_reducible refine Below.drew ?_)))
  have hq : PS w1 0 a n c r.ps := h.below hb1
  have hs1 : w.heap.size + 2 ≤ w1.heap.size := by have := hb.size; simpa using this
  have hz : w.heap.size + 1 < w1.heap.size := by omega
  obtain ⟨hc, hf⟩ := bcell hb0
  clear hb hp hok HH hs1
  go_wp2_with fail
  refine (replies17 rep r _ _ _ _ _ _ _ (hp'.alloc _) (hq.alloc _)).mono ?_
  rintro e w2 ⟨rfl, hb2⟩
  go_wp2
  go_ret
  refine ⟨rfl, hb1.trans ?_⟩
  have : Below w1.heap.size w1 w2 := by refine Below.trans ?_ (hb2.mono (by simp)); exact (by repeat (first | (with_reducible exact Below.refl _ _) | (with_reducible assumption) | (with_reducible refine Below.setCell ?_ (by first | omega | (simp; done) | (simp; omega)) _) | (with_reducible refine Below.alloc ?_ (by first | omega | (simp; done) | (simp; omega)) _) | (with_reducible refine below_setRow ?_ (by first | omega | (simp; done) | (simp; omega)) _) | (with_reducible refine Below.drew ?_)))
  exact this.mono hb1.size

theorem found68 (w : World) : Calls Try.prog 68 #[] w fun e w' => e = .returned (.agg #[.int .i64 0, .bool true, .string ⟨#[]⟩, .int .i64 0, .slice none 0 0]) ∧ Below w.heap.size w w' := by
  go_enter Try.func68, Try.ntmps68
  go_wp2
  exact bodyPost_ret (v := .agg #[.int .i64 0, .bool true, .string ⟨#[]⟩, .int .i64 0, .slice none 0 0]) (by simp [results, Try.results68, go_sem]) rfl ⟨rfl, (by repeat (first | (with_reducible exact Below.refl _ _) | (with_reducible assumption) | (with_reducible refine Below.setCell ?_ (by first | omega | (simp; done) | (simp; omega)) _) | (with_reducible refine Below.alloc ?_ (by first | omega | (simp; done) | (simp; omega)) _) | (with_reducible refine below_setRow ?_ (by first | omega | (simp; done) | (simp; omega)) _) | (with_reducible refine Below.drew ?_)))⟩

def zeroOV : OV := ⟨Own.zero, none, 0, 0⟩
def zeros8 : List OV := List.replicate 8 zeroOV
theorem zeros8_ok (w : World) (B : Nat) : ∀ v ∈ zeros8, v.ok w B := by
  intro v hv
  obtain rfl := List.eq_of_mem_replicate hv
  exact PS.nil _ _
def foundRep : Rep := ⟨0, true, ⟨#[]⟩, 0, []⟩


/-- behind DedupRuns' second line: the owners that were noted lie in block b2 -/
def Mid18 (w : World) (vs : List OV) (b2 : Nat) (w' : World) : Prop :=
  Blk w' w.heap.size (ovCells zeros8) 29 ∧ Blk w' b2 (ovCells vs) 29 ∧ vs.length = 8 ∧ (∀ v ∈ vs, v.ok w' 0) ∧ vs.map OV.o = note (zeros8.map OV.o) 1 5 foundRep ∧ Below w.heap.size w w'
def Post18 (w : World) (e : Exit) (a : Act) (w' : World) : Prop :=
  e = .normal ∧ ∃ b2 v3 v4 v5 vs, a = { tmps := #[.bool false, .pointer (some ⟨w.heap.size, 0, none⟩), .pointer (some ⟨b2, 0, none⟩), v3, v4, v5, undef, undef, undef, undef, undef, undef, undef, undef, undef, undef, undef, undef, undef, undef, undef, undef, undef, undef, undef, undef, undef, undef, undef], defers := [] } ∧ Mid18 w vs b2 w'

theorem info29' : (Try.prog.info? 29).map (·.size) = some (ovCells zeros8).length := by kernel_rfl


theorem isA (w : World) : Calls Try.prog 69 #[.agg (ovCells zeros8).toArray, .int .i64 1, .int .i64 1, .int .i64 1, .agg #[.int .i64 0, .bool false, .string ⟨#[]⟩, .int .i64 0, .slice none 0 0]] w (RetB w.heap.size true w) :=
  is69 zeros8 1 1 1 Rep.zero Rep.zero none 0 0 w (zeros8_ok _ _) rfl (PS.nil _ _) fun w' hw' => look16 zeros8 1 1 0 zeroOV w' rfl (PS.nil _ _) rfl rfl (by omega)
theorem isB (w : World) : Calls Try.prog 69 #[.agg (ovCells zeros8).toArray, .int .i64 9, .int .i64 1, .int .i64 0, .agg #[.int .i64 0, .bool false, .string ⟨#[]⟩, .int .i64 0, .slice none 0 0]] w (RetB w.heap.size true w) :=
  is69 zeros8 9 1 0 Rep.zero Rep.zero none 0 0 w (zeros8_ok _ _) rfl (PS.nil _ _) fun w' hw' => look16_no zeros8 9 1 w' (by omega)
theorem head18 {vs : List OV} (h8 : vs.length = 8) (hm : vs.map OV.o = note (zeros8.map OV.o) 1 5 foundRep) : ∃ v, vs[0]? = some v ∧ v.o = ⟨5, foundRep⟩ := by
  have h : (vs.map OV.o)[0]? = some ⟨5, foundRep⟩ := by rw [hm]; rfl
  rw [List.getElem?_map] at h
  cases hv : vs[0]? with
  | none => rw [hv] at h; cases h
  | some v => rw [hv] at h; exact ⟨v, rfl, Option.some.inj h⟩
theorem isC {vs : List OV} (w : World) (h8 : vs.length = 8) (hok : ∀ v ∈ vs, v.ok w 0) (hm : vs.map OV.o = note (zeros8.map OV.o) 1 5 foundRep) :
    Calls Try.prog 69 #[.agg (ovCells vs).toArray, .int .i64 1, .int .i64 5, .int .i64 2, .agg #[.int .i64 0, .bool true, .string ⟨#[]⟩, .int .i64 0, .slice none 0 0]] w (RetB w.heap.size true w) := by
  obtain ⟨v, hv, hvo⟩ := head18 h8 hm
  refine is69 vs 1 5 2 foundRep foundRep none 0 0 w hok h8 (PS.nil _ _) fun w' hw' => ?_
  have := look16 vs 1 5 0 v w' h8 (hw' v (List.mem_of_getElem? hv)) hv rfl (by omega)
  rw [hvo] at this
  exact this
theorem isD {vs : List OV} (w : World) (h8 : vs.length = 8) (hok : ∀ v ∈ vs, v.ok w 0) (hm : vs.map OV.o = note (zeros8.map OV.o) 1 5 foundRep) :
    Calls Try.prog 69 #[.agg (ovCells vs).toArray, .int .i64 1, .int .i64 4, .int .i64 3, .agg #[.int .i64 0, .bool false, .string ⟨#[]⟩, .int .i64 0, .slice none 0 0]] w (RetB w.heap.size true w) := by
  obtain ⟨v, hv, hvo⟩ := head18 h8 hm
  refine is69 vs 1 4 3 Rep.zero Rep.zero none 0 0 w hok h8 (PS.nil _ _) fun w' hw' => ?_
  have := look16 vs 1 4 0 v w' h8 (hw' v (List.mem_of_getElem? hv)) hv rfl (by omega)
  rw [hvo] at this
  exact this
theorem isE {vs : List OV} (w : World) (h8 : vs.length = 8) (hok : ∀ v ∈ vs, v.ok w 0) (hm : vs.map OV.o = note (zeros8.map OV.o) 1 5 foundRep) :
    Calls Try.prog 69 #[.agg (ovCells vs).toArray, .int .i64 1, .int .i64 6, .int .i64 1, .agg #[.int .i64 0, .bool false, .string ⟨#[]⟩, .int .i64 0, .slice none 0 0]] w (RetB w.heap.size true w) := by
  obtain ⟨v, hv, hvo⟩ := head18 h8 hm
  refine is69 vs 1 6 1 Rep.zero Rep.zero none 0 0 w hok h8 (PS.nil _ _) fun w' hw' => ?_
  have := look16 vs 1 6 0 v w' h8 (hw' v (List.mem_of_getElem? hv)) hv rfl (by omega)
  rw [hvo] at this
  exact this

set_option maxRecDepth 10000 in
set_option maxHeartbeats 2000000 in
theorem runs18 (w : World) : Calls Try.prog 18 #[] w (RetB w.heap.size true w) := by
  go_enter Try.func18, Try.ntmps18
  go_wp2_with fail
  refine Code.wp_mono (Q := Post18 w) ?_ ?_
  · rintro e a w' ⟨rfl, b2, v3, v4, v5, vs, rfl, hm⟩
    obtain ⟨hB1, hB2, h8, hok, hmap, hw1⟩ := hm
    have HM := Lib.hid hmap
    have H8 := Lib.hid h8
    clear hmap h8
    go_wp2_with fail
    have hB1d : Blk w'.drew w.heap.size (ovCells zeros8) 29 := hB1
    have hB2d : Blk w'.drew b2 (ovCells vs) 29 := hB2
    have hokd : ∀ v ∈ vs, v.ok w'.drew 0 := hok
    have hw1d : Below w.heap.size w w'.drew := hw1.drew
    have hl48 : Hid ((Try.prog.info? 29).map (·.size) = some (ovCells vs).length) := by show _ = _; rw [info29, ovCells_len, H8.out]
    clear hB1 hB2 hok hw1
    refine wp_region_canon w'.heap.size [] [(true, 0), (true, 1), (false, 2), (true, 3), (true, 4), (true, 5), (false, 6), (true, 7), (true, 8), (true, 9), (false, 10), (false, 11), (true, 12), (true, 13), (true, 14), (true, 15), (false, 16), (true, 17), (true, 18), (true, 19), (true, 20), (false, 21), (true, 22), (true, 23)] (by kernel_rfl) (by kernel_rfl) rfl (by kernel_rfl) (fun _ _ d _ _ h => by cases d <;> exact h) ?_
    change wpCan _ _ w'.drew.heap.size _ _ _ _ w'.drew
    generalize w'.drew = x0 at hB1d hB2d hokd hw1d ⊢
    have hn0 : x0.heap.size ≤ x0.heap.size := Nat.le_refl _
    have hlt1 : w.heap.size < x0.heap.size := hB1d.lt
    have hlt2 : b2 < x0.heap.size := hB2d.lt
    have hB1x0 := hB1d
    have hB2x0 := hB2d
    clear hB1d hB2d
    have hokx0 := hokd
    have hbx0 := hw1d
    clear hokd hw1d
    (refine wpCan_reads (qs := [0, 1]) (.cons rfl (.cons rfl .nil)) (by kernel_rfl) ?_; (repeat (first | (refine wpQuiet_load_row rfl 29 _ rfl w.heap.size 0 rfl (ovCells zeros8) _ (mix_range (Blk.range hB1x0) (Nat.lt_of_lt_of_le hlt1 (Nat.le_refl _)) (by simp)) Try.underlying29 rfl info29' ?_; simp only [Act.put, List.setIfInBounds_toArray, List.set_cons_zero, List.set_cons_succ]) | go_big_quiet_step (fail))); refine wpQuiet_nil ?_)
    (try simp only [Act.put, List.setIfInBounds_toArray, List.set_cons_zero, List.set_cons_succ])
    refine wpCan_acts _ rfl ?_
    go_wp2_with (go_at_call 69; refine (isA _).mono ?_; rintro e x1 ⟨rfl, hb⟩)
    have hB1x1 := hB1x0.below hb hB1x0.lt
    have hB2x1 := hB2x0.below hb hB2x0.lt
    have hokx1 : ∀ v ∈ vs, v.ok x1 0 := fun v hv => (hokx0 v hv).below hb
    have hbx1 : Below w.heap.size w x1 := hbx0.trans (hb.mono (Nat.le_of_lt hB1x0.lt))
    have hn1 : x0.heap.size ≤ x1.heap.size := Nat.le_trans hn0 hb.size
    refine ⟨Same.of_below hb hn0, ?_⟩
    clear hb hB1x0 hB2x0 hokx0 hbx0 hn0
    (refine wpCan_reads (qs := [3, 4, 5]) (.cons rfl (.cons rfl (.cons rfl .nil))) (by kernel_rfl) ?_; (repeat (first | (refine wpQuiet_load_row rfl 29 _ rfl w.heap.size 0 rfl (ovCells zeros8) _ (mix_range (Blk.range hB1x1) (Nat.lt_of_lt_of_le hlt1 (Nat.le_refl _)) (by simp)) Try.underlying29 rfl info29' ?_; simp only [Act.put, List.setIfInBounds_toArray, List.set_cons_zero, List.set_cons_succ]) | go_big_quiet_step (fail))); refine wpQuiet_nil ?_)
    (try simp only [Act.put, List.setIfInBounds_toArray, List.set_cons_zero, List.set_cons_succ])
    refine wpCan_acts _ rfl ?_
    go_wp2_with (go_at_call 69; refine (isB _).mono ?_; rintro e x2 ⟨rfl, hb⟩)
    have hB1x2 := hB1x1.below hb hB1x1.lt
    have hB2x2 := hB2x1.below hb hB2x1.lt
    have hokx2 : ∀ v ∈ vs, v.ok x2 0 := fun v hv => (hokx1 v hv).below hb
    have hbx2 : Below w.heap.size w x2 := hbx1.trans (hb.mono (Nat.le_of_lt hB1x1.lt))
    have hn2 : x0.heap.size ≤ x2.heap.size := Nat.le_trans hn1 hb.size
    refine ⟨Same.of_below hb hn1, ?_⟩
    clear hb hB1x1 hB2x1 hokx1 hbx1 hn1
    (refine wpCan_reads (qs := [7, 8, 9]) (.cons rfl (.cons rfl (.cons rfl .nil))) (by kernel_rfl) ?_; (repeat (first | (refine wpQuiet_load_row rfl 29 _ rfl b2 0 rfl (ovCells vs) _ (mix_range (Blk.range hB2x2) (Nat.lt_of_lt_of_le hlt2 (Nat.le_refl _)) (by simp)) Try.underlying29 rfl hl48.out ?_; simp only [Act.put, List.setIfInBounds_toArray, List.set_cons_zero, List.set_cons_succ]) | go_big_quiet_step (fail))); refine wpQuiet_nil ?_)
    (try simp only [Act.put, List.setIfInBounds_toArray, List.set_cons_zero, List.set_cons_succ])
    refine wpCan_acts _ rfl ?_
    go_wp2_with (go_at_call 68; refine (found68 _).mono ?_; rintro e x3 ⟨rfl, hb⟩)
    have hB1x3 := hB1x2.below hb hB1x2.lt
    have hB2x3 := hB2x2.below hb hB2x2.lt
    have hokx3 : ∀ v ∈ vs, v.ok x3 0 := fun v hv => (hokx2 v hv).below hb
    have hbx3 : Below w.heap.size w x3 := hbx2.trans (hb.mono (Nat.le_of_lt hB1x2.lt))
    have hn3 : x0.heap.size ≤ x3.heap.size := Nat.le_trans hn2 hb.size
    refine ⟨Same.of_below hb hn2, ?_⟩
    clear hb hB1x2 hB2x2 hokx2 hbx2 hn2
    refine wpCan_acts _ rfl ?_
    go_wp2_with (go_at_call 69; refine (isC _ H8.out hokx3 HM.out).mono ?_; rintro e x4 ⟨rfl, hb⟩)
    have hB1x4 := hB1x3.below hb hB1x3.lt
    have hB2x4 := hB2x3.below hb hB2x3.lt
    have hokx4 : ∀ v ∈ vs, v.ok x4 0 := fun v hv => (hokx3 v hv).below hb
    have hbx4 : Below w.heap.size w x4 := hbx3.trans (hb.mono (Nat.le_of_lt hB1x3.lt))
    have hn4 : x0.heap.size ≤ x4.heap.size := Nat.le_trans hn3 hb.size
    refine ⟨Same.of_below hb hn3, ?_⟩
    clear hb hB1x3 hB2x3 hokx3 hbx3 hn3
    (refine wpCan_reads (qs := [12, 13, 14, 15]) (.cons rfl (.cons rfl (.cons rfl (.cons rfl .nil)))) (by kernel_rfl) ?_; (repeat (first | (refine wpQuiet_load_row rfl 29 _ rfl b2 0 rfl (ovCells vs) _ (mix_range (Blk.range hB2x4) (Nat.lt_of_lt_of_le hlt2 (Nat.le_refl _)) (by simp)) Try.underlying29 rfl hl48.out ?_; simp only [Act.put, List.setIfInBounds_toArray, List.set_cons_zero, List.set_cons_succ]) | go_big_quiet_step (fail))); refine wpQuiet_nil ?_)
    (try simp only [Act.put, List.setIfInBounds_toArray, List.set_cons_zero, List.set_cons_succ])
    refine wpCan_acts _ rfl ?_
    go_wp2_with (go_at_call 69; refine (isD _ H8.out hokx4 HM.out).mono ?_; rintro e x5 ⟨rfl, hb⟩)
    have hB1x5 := hB1x4.below hb hB1x4.lt
    have hB2x5 := hB2x4.below hb hB2x4.lt
    have hokx5 : ∀ v ∈ vs, v.ok x5 0 := fun v hv => (hokx4 v hv).below hb
    have hbx5 : Below w.heap.size w x5 := hbx4.trans (hb.mono (Nat.le_of_lt hB1x4.lt))
    have hn5 : x0.heap.size ≤ x5.heap.size := Nat.le_trans hn4 hb.size
    refine ⟨Same.of_below hb hn4, ?_⟩
    clear hb hB1x4 hB2x4 hokx4 hbx4 hn4
    (refine wpCan_reads (qs := [17, 18, 19, 20]) (.cons rfl (.cons rfl (.cons rfl (.cons rfl .nil)))) (by kernel_rfl) ?_; (repeat (first | (refine wpQuiet_load_row rfl 29 _ rfl b2 0 rfl (ovCells vs) _ (mix_range (Blk.range hB2x5) (Nat.lt_of_lt_of_le hlt2 (Nat.le_refl _)) (by simp)) Try.underlying29 rfl hl48.out ?_; simp only [Act.put, List.setIfInBounds_toArray, List.set_cons_zero, List.set_cons_succ]) | go_big_quiet_step (fail))); refine wpQuiet_nil ?_)
    (try simp only [Act.put, List.setIfInBounds_toArray, List.set_cons_zero, List.set_cons_succ])
    refine wpCan_acts _ rfl ?_
    go_wp2_with (go_at_call 69; refine (isE _ H8.out hokx5 HM.out).mono ?_; rintro e x6 ⟨rfl, hb⟩)
    have hB1x6 := hB1x5.below hb hB1x5.lt
    have hB2x6 := hB2x5.below hb hB2x5.lt
    have hokx6 : ∀ v ∈ vs, v.ok x6 0 := fun v hv => (hokx5 v hv).below hb
    have hbx6 : Below w.heap.size w x6 := hbx5.trans (hb.mono (Nat.le_of_lt hB1x5.lt))
    have hn6 : x0.heap.size ≤ x6.heap.size := Nat.le_trans hn5 hb.size
    refine ⟨Same.of_below hb hn5, ?_⟩
    clear hb hB1x5 hB2x5 hokx5 hbx5 hn5
    (refine wpCan_reads (qs := [22, 23]) (.cons rfl (.cons rfl .nil)) (by kernel_rfl) ?_; (repeat (first | go_big_quiet_step (fail))); refine wpQuiet_nil ?_)
    refine wpCan_nil ?_
    go_wp2
    go_ret
    exact ⟨rfl, hbx6⟩
  · have hB0 : Blk (w.alloc (.cells (ovCells zeros8).toArray 29)).drew w.heap.size (ovCells zeros8) 29 := Blk.new w (ovCells zeros8) 29
    have hw0 : Below w.heap.size w (w.alloc (.cells (ovCells zeros8).toArray 29)).drew := (by repeat (first | (with_reducible exact Below.refl _ _) | (with_reducible assumption) | (with_reducible refine Below.setCell ?_ (by first | omega | (simp; done) | (simp; omega)) _) | (with_reducible refine Below.alloc ?_ (by first | omega | (simp; done) | (simp; omega)) _) | (with_reducible refine below_setRow ?_ (by first | omega | (simp; done) | (simp; omega)) _) | (with_reducible refine Below.drew ?_)))
    have hz0 : (w.alloc (.cells (ovCells zeros8).toArray 29)).drew.heap.size = w.heap.size + 1 := by simp
    refine wp_region_steps (w.heap.size + 1) [] (by kernel_rfl) ?_
    change wpAnyH _ _ _ _ (Same _ _ (w.alloc (.cells (ovCells zeros8).toArray 29)).drew) _ _ _ (w.alloc (.cells (ovCells zeros8).toArray 29)).drew
    generalize (w.alloc (.cells (ovCells zeros8).toArray 29)).drew = w0 at hB0 hw0 hz0 ⊢
    have HZ := Lib.hid hz0
    clear hz0
    refine steps_reads [0] (by kernel_rfl) (fun _ _ _ _ _ h => nomatch h.1) _ (.cons rfl .nil) (by kernel_rfl) (fuel' := 4) rfl (L' := #[true, false, false, false, false]) (by kernel_rfl) ?_
    refine wpQuiet_load_row rfl 29 _ rfl w.heap.size 0 rfl (ovCells zeros8) _ (mix_range (Blk.range hB0) (by omega) (by simp)) Try.underlying29 rfl info29' ?_
    refine wpQuiet_nil ?_
    simp only [Act.put, List.setIfInBounds_toArray, List.set_cons_zero, List.set_cons_succ]
    refine steps_acts [1, 3] (by kernel_rfl) (by simp) (.cons _ rfl ?_ (.cons _ rfl ?_ .nil))
    · go_wp2_with (go_at_call 68; refine (found68 _).mono ?_; rintro e w1 ⟨rfl, hb1⟩)
      have hz1 : w.heap.size + 1 ≤ w1.heap.size := by have := hb1.size; have := HZ.out; omega
      have hB1 : Blk w1 w.heap.size (ovCells zeros8) 29 := hB0.below hb1 (by have := HZ.out; omega)
      have hw1 : Below w.heap.size w w1 := hw0.trans (hb1.mono (by have := HZ.out; omega))
      refine ⟨Same.of_below hb1 (by have := HZ.out; omega), ?_⟩
      clear hb1 hB0 hw0 HZ
      refine steps_acts [2, 3] (by kernel_rfl) (by simp) (.cons _ rfl ?_ (.cons _ rfl ?_ .nil))
      · go_wp2_with (go_at_call 14; refine (note14 zeros8 1 5 foundRep none 0 0 _ rfl (zeros8_ok _ _) (PS.nil _ _) (by omega)).mono ?_; rintro e w2 ⟨vs, rfl, h8, hok, hmap, hb2⟩)
        have hz2 : w1.heap.size ≤ w2.heap.size := hb2.size
        have hB2 : Blk w2 w.heap.size (ovCells zeros8) 29 := hB1.below hb2 (by omega)
        have hw2 : Below w.heap.size w w2 := hw1.trans (hb2.mono (by omega))
        refine ⟨Same.of_below hb2 (by omega), ?_⟩
        clear hb2 hw1 hB1
        refine steps_acts [3] (by kernel_rfl) (by simp) (.cons _ rfl ?_ .nil)
        go_wp2_with fail
        refine ⟨(Same.refl _ _ _).alloc (by omega) _, ?_⟩
        refine steps_acts [4] (by kernel_rfl) (by simp) (.cons _ rfl ?_ .nil)
        go_wp2_with (first | (refine wpList_store_row rfl 29 _ _ rfl w2.heap.size (ovCells vs).toArray rfl rfl 29 _ (Blk.new' w2 (ovCells zeros8) 29 _ rfl) (ovCells_48 h8) (by rw [List.size_toArray, List.size_toArray, ovCells_len, ovCells_len, h8]; rfl) (ovCells_all _) ?_))
        refine ⟨(Same.refl _ _ _).setRow (.inr (by omega)) _, ?_⟩
        refine wpAnyH_done (by kernel_rfl) ?_ _
        refine ⟨rfl, w2.heap.size, _, _, _, vs, rfl, (by repeat (first | (with_reducible exact hB2) | (with_reducible refine Blk.new' _ _ _ _ (by first | omega | (simp; done) | (simp; omega))) | (with_reducible refine Blk.other ?_ (by first | omega | (simp; done) | (simp; omega)) _) | (with_reducible refine Blk.alloc ?_ _) | (with_reducible refine Blk.setRow_other ?_ (by first | omega | (simp; done) | (simp; omega)) _) | (with_reducible refine Blk.drew ?_) | (with_reducible refine Blk.set ?_ _ _))), Blk.setRow (Blk.new' w2 (ovCells zeros8) 29 _ rfl) _, h8, fun v hv => ?_, hmap, below_setRow (by repeat (first | (with_reducible exact Below.refl _ _) | (with_reducible assumption) | (with_reducible refine Below.setCell ?_ (by first | omega | (simp; done) | (simp; omega)) _) | (with_reducible refine Below.alloc ?_ (by first | omega | (simp; done) | (simp; omega)) _) | (with_reducible refine below_setRow ?_ (by first | omega | (simp; done) | (simp; omega)) _) | (with_reducible refine Below.drew ?_))) (by omega) _⟩
        exact PS.below (PS.mono (hok v hv) (Nat.zero_le _)) (below_setRow (by repeat (first | (with_reducible exact Below.refl _ _) | (with_reducible assumption) | (with_reducible refine Below.setCell ?_ (by first | omega | (simp; done) | (simp; omega)) _) | (with_reducible refine Below.alloc ?_ (by first | omega | (simp; done) | (simp; omega)) _) | (with_reducible refine below_setRow ?_ (by first | omega | (simp; done) | (simp; omega)) _) | (with_reducible refine Below.drew ?_))) (Nat.le_refl _) _)
      · go_wp2_with fail
        refine ⟨(Same.refl _ _ _).alloc (by omega) _, ?_⟩
        refine steps_acts [2] (by kernel_rfl) (by simp) (.cons _ rfl ?_ .nil)
        go_wp2_with (go_at_call 14; refine (note14 zeros8 1 5 foundRep none 0 0 _ rfl (zeros8_ok _ _) (PS.nil _ _) (by omega)).mono ?_; rintro e w2 ⟨vs, rfl, h8, hok, hmap, hb2⟩)
        have hz2 : w1.heap.size + 1 ≤ w2.heap.size := by have := hb2.size; simpa using this
        have hB2 : Blk w2 w.heap.size (ovCells zeros8) 29 := (hB1.alloc _).below hb2 (by simp; omega)
        have hB3 : Blk w2 w1.heap.size (ovCells zeros8) 29 := (Blk.new w1 (ovCells zeros8) 29).below hb2 (by simp)
        have hw2 : Below w.heap.size w w2 := (hw1.alloc (by omega) _).trans (hb2.mono (by simp; omega))
        have hok2 : ∀ v ∈ vs, v.ok w2 (w1.heap.size + 1) := fun v hv => PS.mono (hok v hv) (by simp)
        refine ⟨Same.of_below hb2 (by simp; omega), ?_⟩
        clear hb2 hw1 hB1 hok
        refine steps_acts [4] (by kernel_rfl) (by simp) (.cons _ rfl ?_ .nil)
        go_wp2_with (first | (refine wpList_store_row rfl 29 _ _ rfl w1.heap.size (ovCells vs).toArray rfl rfl 29 _ hB3 (ovCells_48 h8) (by rw [List.size_toArray, List.size_toArray, ovCells_len, ovCells_len, h8]; rfl) (ovCells_all _) ?_))
        refine ⟨(Same.refl _ _ _).setRow (.inr (by omega)) _, ?_⟩
        refine wpAnyH_done (by kernel_rfl) ?_ _
        refine ⟨rfl, w1.heap.size, _, _, _, vs, rfl, hB2.setRow_other (by omega) _, Blk.setRow hB3 _, h8, fun v hv => ?_, hmap, below_setRow hw2 (by omega) _⟩
        exact (PS.setRow (hok2 v hv) (by omega) _).mono (Nat.zero_le _)
    · go_wp2_with fail
      have hB1 : Blk (w0.alloc (.cells (ovCells zeros8).toArray 29)) w.heap.size (ovCells zeros8) 29 := hB0.alloc _
      have hB2 : Blk (w0.alloc (.cells (ovCells zeros8).toArray 29)) w0.heap.size (ovCells zeros8) 29 := Blk.new w0 _ _
      have hz1 : (w0.alloc (.cells (ovCells zeros8).toArray 29)).heap.size = w0.heap.size + 1 := by simp
      have hw1 : Below w.heap.size w (w0.alloc (.cells (ovCells zeros8).toArray 29)) := hw0.alloc (by have := HZ.out; omega) _
      refine ⟨(Same.refl _ _ _).alloc (by have := HZ.out; omega) _, ?_⟩
      change wpAnyH _ _ _ _ (Same _ _ (w0.alloc (.cells (ovCells zeros8).toArray 29))) _ _ _ (w0.alloc (.cells (ovCells zeros8).toArray 29))
      generalize (w0.alloc (.cells (ovCells zeros8).toArray 29)) = w9 at hB1 hB2 hw1 hz1 ⊢
      have HZ1 := Lib.hid hz1
      clear hz1
      refine steps_acts [1] (by kernel_rfl) (by simp) (.cons _ rfl ?_ .nil)
      go_wp2_with (go_at_call 68; refine (found68 _).mono ?_; rintro e w1 ⟨rfl, hb1⟩)
      have hb1s := hb1.size
      refine ⟨Same.of_below hb1 (by have := HZ.out; have := HZ1.out; omega), ?_⟩
      refine steps_acts [2] (by kernel_rfl) (by simp) (.cons _ rfl ?_ .nil)
      go_wp2_with (go_at_call 14; refine (note14 zeros8 1 5 foundRep none 0 0 _ rfl (zeros8_ok _ _) (PS.nil _ _) (by omega)).mono ?_; rintro e w2 ⟨vs, rfl, h8, hok, hmap, hb2⟩)
      have hB5 := (hB1.below hb1 hB1.lt).below hb2 (Nat.lt_of_lt_of_le hB1.lt hb1s)
      have hB6 := (hB2.below hb1 hB2.lt).below hb2 (Nat.lt_of_lt_of_le hB2.lt hb1s)
      have hw2 : Below w.heap.size w w2 := (hw1.trans (hb1.mono (by have := hB1.lt; omega))).trans (hb2.mono (by have := hB1.lt; omega))
      have hlt : w0.heap.size < w1.heap.size := Nat.lt_of_lt_of_le hB2.lt hb1s
      refine ⟨Same.of_below hb2 (by have := HZ.out; have := HZ1.out; omega), ?_⟩
      clear hb2 hb1 hw1 hB1 hB2 hw0 hB0
      refine steps_acts [4] (by kernel_rfl) (by simp) (.cons _ rfl ?_ .nil)
      go_wp2_with (first | (refine wpList_store_row rfl 29 _ _ rfl w0.heap.size (ovCells vs).toArray rfl rfl 29 _ hB6 (ovCells_48 h8) (by rw [List.size_toArray, List.size_toArray, ovCells_len, ovCells_len, h8]; rfl) (ovCells_all _) ?_))
      have HZ' := HZ.out
      refine ⟨(Same.refl _ _ _).setRow (.inr (by omega)) _, ?_⟩
      refine wpAnyH_done (by kernel_rfl) ?_ _
      refine ⟨rfl, w0.heap.size, _, _, _, vs, rfl, hB5.setRow_other (by omega) _, Blk.setRow hB6 _, h8, fun v hv => ?_, hmap, below_setRow hw2 (by omega) _⟩
      exact (PS.setRow (hok v hv) (by omega) _).mono (Nat.zero_le _)
end Go.Proofs.Ythdcdckmmfdfgaa
