/- DedupKept, the walk. -/
import Derived.Test.YthdcdckmmfdfgaaRuns12
import Derived.Laws.AppendOwnNone
set_option linter.unusedVariables false
set_option linter.unusedSimpArgs false
namespace Go.Proofs.Ythdcdckmmfdfgaa
open Go.RowKit

theorem PS.take {w : World} {B : Nat} {a : Option Addr} {n c : Nat} {ps : List Pr} (h : PS w B a n c ps) (m : Nat) (hm : m ≤ n) : PS w B a m c (ps.take m) := by
  obtain ⟨rfl, hn, h⟩ := h
  refine ⟨by simp; omega, by omega, Nat.le_trans hm h.1, fun hne => ?_⟩
  have hl := prCells_len (ps.take m)
  have h3 : prCells ps = prCells (ps.take m) ++ prCells (ps.drop m) := by
    rw [prCells, prCells, prCells, ← List.flatMap_append, List.take_append_drop]
  obtain ⟨b, o, h1, h2, h4⟩ := h.2 (by rw [h3]; intro hh; exact hne (List.append_eq_nil_iff.1 hh).1)
  refine ⟨b, o, h1, h2, fun j hj => ?_⟩
  have := h4 j (by rw [h3, List.length_append]; omega)
  rw [h3, List.getElem?_append_left hj] at this
  exact this

theorem PS.none {w : World} {B : Nat} {n c : Nat} {ps : List Pr} (h : PS w B none n c ps) : ps = [] ∧ n = 0 := by
  obtain ⟨rfl, hn, h⟩ := h
  have hl := prCells_len ps
  rcases Classical.em (prCells ps = []) with h' | h'
  · rw [h'] at hl
    have := List.eq_nil_of_length_eq_zero (l := ps) (by simp at hl; omega)
    subst this
    exact ⟨rfl, rfl⟩
  · obtain ⟨b, o, h2, _⟩ := h.2 h'; cases h2

theorem grownBy_refl (w : World) (b : Option Nat) : w.grownBy w b := ⟨rfl, rfl, rfl, Nat.le_refl _, fun _ _ _ => rfl⟩

/-- a goal that the walk leaves alone -/
def Stop (p : Prop) : Prop := p
theorem stop {p : Prop} (h : Stop p) : p := h
theorem unstop {p : Prop} (h : p) : Stop p := h

theorem owns_empty {w : World} {B b : Nat} (h : Blk w b [] 32) (hB : B ≤ b) : w.ownsRow B 32 3 (.slice (some ⟨b, 0, none⟩) 0 0) 0 [] :=
  ⟨rfl, .inr ⟨b, 0, #[], rfl, hB, h, Nat.le_refl _, Nat.zero_le _, rfl, rfl⟩⟩

/-- append(own empty row, pairs...) -/
theorem append_ps {w : World} {ops : Array Oper} {rest : List Oper} {o : Oper} {a : Act} {Q : Exit → Act → World → Prop} (hgd : o.guard = none) (s x : Operand)
    (ho : o.op = .call { callee := .builtin .append, args := #[s, x], argTypes := #[23, 23] }) (B : Nat) (v : Value) (hs : a.eval s = v) (hown : w.ownsRow B 32 3 v 0 []) (hob : v.ownBlock = some B) (hB : B < w.heap.size)
    (sa : Option Addr) (n c : Nat) (ps : List Pr) (h : PS w 0 sa n c ps) (hnil : sa = none → c = 0) (hx : a.eval x = .slice sa n c)
    (H : ∀ a' c' w', PS w' B a' n c' ps → w.grownBy w' (some B) → wpList Try.prog ops Q rest (a.put o.dst (.slice a' n c')) w') : wpList Try.prog ops Q (o :: rest) a w := by
  obtain ⟨i0, hi, hz0, hz1, hz2⟩ := info_parts info32
  obtain ⟨rfl, hn, h⟩ := h
  have hl := prCells_len ps
  have h1 := prCells_one ps
  cases sa with
  | none =>
    have hcs : ps = [] := by
      rcases Classical.em (prCells ps = []) with h' | h'
      · rw [h'] at hl; exact List.eq_nil_of_length_eq_zero (by simp at hl; omega)
      · obtain ⟨b, o, h2, _⟩ := h.2 h'; cases h2
    subst hcs
    obtain rfl := hnil rfl
    obtain ⟨a', c', rfl, hs'⟩ := SlA.of_owns hown
    exact wpList_append_own_none hgd s x 23 ho B 32 i0 3 Try.underlying23 hi _ 0 [] hs hown hx (H a' c' w ⟨rfl, hn, hs'⟩ (grownBy_refl _ _))
  | some ad =>
    have hnews : ∀ j u, (prCells ps)[j]? = some u → w.cell? (ad.add j) = some u := by
      intro j u hu
      have hne : prCells ps ≠ [] := by intro h'; rw [h'] at hu; simp at hu
      obtain ⟨b, o, h2, _, h3, h4, _⟩ := h.at hne
      obtain rfl := Option.some.inj h2
      have hj := (List.getElem?_eq_some_iff.1 hu).1
      rw [Addr.add_lit, h4 j hj, hu]
    refine wpList_append_own _ hgd s x 23 ho B 32 i0 (.agg #[.string ⟨#[]⟩, .string ⟨#[]⟩, .int .i64 0]) 3 40 Try.underlying23 hi hz0 hz1 hz2 rfl (by decide) v 0 [] hs hown ad ps.length c (prCells ps) hx hl hnews h1 (by unfold maxLen; omega) (by omega) (by omega) ?_
    intro v' w1 hown' hgrow _
    rw [Nat.zero_add, List.nil_append] at hown'
    obtain ⟨a', c', rfl, hs'⟩ := SlA.of_owns hown'
    exact H a' c' w1 ⟨rfl, hn, hs'⟩ (hob ▸ hgrow)

theorem note_at {vs : List OV} {os : List Own} {c s : Int} {r : Rep} (hm : vs.map OV.o = note os c s r) (h8 : os.length = 8) (i : Nat) (hi : c = i + 1) (h : i < 8) : ∃ v, vs[i]? = some v ∧ v.o = ⟨s, r⟩ := by
  have : (vs.map OV.o)[i]? = some ⟨s, r⟩ := by
    rw [hm, note, if_pos (by omega), show c.toNat - 1 = i by omega]
    exact List.getElem?_set_self (by omega)
  rw [List.getElem?_map] at this
  cases hv : vs[i]? with
  | none => rw [hv] at this; cases this
  | some v => rw [hv] at this; exact ⟨v, rfl, Option.some.inj this⟩
theorem note_other {vs : List OV} {os : List Own} {c s : Int} {r : Rep} (hm : vs.map OV.o = note os c s r) (i : Nat) (hi : c ≠ i + 1) (o : Own) (ho : os[i]? = some o) : ∃ v, vs[i]? = some v ∧ v.o = o := by
  have : (vs.map OV.o)[i]? = some o := by
    rw [hm, note]
    split
    · rw [List.getElem?_set_ne (by omega)]; exact ho
    · exact ho
  rw [List.getElem?_map] at this
  cases hv : vs[i]? with
  | none => rw [hv] at this; cases this
  | some v => rw [hv] at this; exact ⟨v, rfl, Option.some.inj this⟩

set_option maxRecDepth 10000 in
set_option maxHeartbeats 2000000 in
theorem kept3 (r : Rep) (a : Option Addr) (n c : Nat) (client : Int) (w : World) (h3 : -9223372036854775808 ≤ client) (h4 : client ≤ 9223372036854775807) (h : PS w 0 a n c r.ps) (hnil : a = none → c = 0) :
    Calls Try.prog 3 #[.agg #[.int .i64 r.why, .bool r.found, .string r.val, .int .i64 r.ver, .slice a n c], .int .i64 client] w (RetB w.heap.size true w) := by
  go_enter Try.func3, Try.ntmps3
  have hnc : n ≤ c := h.2.2.1
  have hcl1 : 1 ≤ within client 1 8 ∧ within client 1 8 ≤ 8 := by unfold within; omega
  have hW := within13 client 1 8
  generalize within client 1 8 = cl at hcl1 hW
  have hT := h.take 20
  have HT : Hid (20 ≤ n → PS w 0 a 20 c (r.ps.take 20)) := hT
  have H0 := Lib.hid h
  go_wp2_with (first | (go_at_call 13; refine (hW _ (by omega) (by omega) (by omega) h3 h4).mono ?_; rintro e w1 ⟨rfl, rfl⟩) | (at_builtin; refine append_ps rfl _ _ rfl (w.heap.size + 3) _ rfl (owns_empty (by repeat (first | (with_reducible exact h) | (with_reducible refine Blk.new' _ _ _ _ (by first | omega | (simp; done) | (simp; omega))) | (with_reducible refine Blk.other ?_ (by first | omega | (simp; done) | (simp; omega)) _) | (with_reducible refine Blk.alloc ?_ _) | (with_reducible refine Blk.setRow_other ?_ (by first | omega | (simp; done) | (simp; omega)) _) | (with_reducible refine Blk.drew ?_) | (with_reducible refine Blk.set ?_ _ _))) (Nat.le_refl _)) rfl (by simp; done) _ _ _ _ ((((h.alloc _).alloc _).alloc _).alloc _) hnil rfl ?_; intro a1 c1 w1 hp1 hg1; clear hW; refine stop ?_) | (at_builtin; refine append_ps rfl _ _ rfl (w.heap.size + 3) _ rfl (owns_empty (by repeat (first | (with_reducible exact h) | (with_reducible refine Blk.new' _ _ _ _ (by first | omega | (simp; done) | (simp; omega))) | (with_reducible refine Blk.other ?_ (by first | omega | (simp; done) | (simp; omega)) _) | (with_reducible refine Blk.alloc ?_ _) | (with_reducible refine Blk.setRow_other ?_ (by first | omega | (simp; done) | (simp; omega)) _) | (with_reducible refine Blk.drew ?_) | (with_reducible refine Blk.set ?_ _ _))) (Nat.le_refl _)) rfl (by simp; done) _ _ _ _ (((((hT (by omega)).alloc _).alloc _).alloc _).alloc _) (fun h' => by subst h'; have := h.none.2; omega) rfl ?_; intro a1 c1 w1 hp1 hg1; clear hW; refine stop ?_))
  · refine unstop ?_
    have hbl : Below (w.heap.size + 3) _ w1 := (Below.refl _ _).grown hg1 (by simp; done) (fun k hk => by cases hk; exact Nat.le_refl _)
    have hR : Blk w1 w.heap.size [.int .i64 r.why, .bool r.found, .string r.val, .int .i64 r.ver, .slice a 20 c] 25 := Blk.below (by repeat (first | (with_reducible exact h) | (with_reducible refine Blk.new' _ _ _ _ (by first | omega | (simp; done) | (simp; omega))) | (with_reducible refine Blk.other ?_ (by first | omega | (simp; done) | (simp; omega)) _) | (with_reducible refine Blk.alloc ?_ _) | (with_reducible refine Blk.setRow_other ?_ (by first | omega | (simp; done) | (simp; omega)) _) | (with_reducible refine Blk.drew ?_) | (with_reducible refine Blk.set ?_ _ _))) hbl (by omega)
    have hL : Blk w1 (w.heap.size + 1) (ovCells zeros8) 29 := Blk.below (Blk.alloc (Blk.alloc (Blk.new' _ (ovCells zeros8) 29 _ (by simp; done)) _) _) hbl (by omega)
    have hO : Blk w1 (w.heap.size + 2) [.int .i64 r.why, .bool r.found, .string r.val, .int .i64 r.ver, .slice a 20 c] 25 := Blk.below (by repeat (first | (with_reducible exact h) | (with_reducible refine Blk.new' _ _ _ _ (by first | omega | (simp; done) | (simp; omega))) | (with_reducible refine Blk.other ?_ (by first | omega | (simp; done) | (simp; omega)) _) | (with_reducible refine Blk.alloc ?_ _) | (with_reducible refine Blk.setRow_other ?_ (by first | omega | (simp; done) | (simp; omega)) _) | (with_reducible refine Blk.drew ?_) | (with_reducible refine Blk.set ?_ _ _))) hbl (by omega)
    have hs1 : w.heap.size + 3 < w1.heap.size := by have := hbl.size; simp at this; omega
    have hb1 : Below w.heap.size w w1 := by refine Below.trans ?_ (hbl.mono (by omega)); exact (by repeat (first | (with_reducible exact Below.refl _ _) | (with_reducible assumption) | (with_reducible refine Below.setCell ?_ (by first | omega | (simp; done) | (simp; omega)) _) | (with_reducible refine Below.alloc ?_ (by first | omega | (simp; done) | (simp; omega)) _) | (with_reducible refine below_setRow ?_ (by first | omega | (simp; done) | (simp; omega)) _) | (with_reducible refine Below.drew ?_)))
    have hr1 : PS w1 0 a 20 c (List.take 20 r.ps) := (hT (by omega)).below hb1
    clear hbl hg1 h hT
    (have o0 : w1.cell? ⟨w.heap.size + 2, 0, none⟩ = some (.int .i64 r.why) := hO.cell 0; have o1 : w1.cell? ⟨w.heap.size + 2, 1, none⟩ = some (.bool r.found) := hO.cell 1; have o2 : w1.cell? ⟨w.heap.size + 2, 2, none⟩ = some (.string r.val) := hO.cell 2; have o3 : w1.cell? ⟨w.heap.size + 2, 3, none⟩ = some (.int .i64 r.ver) := hO.cell 3; have o4 : w1.cell? ⟨w.heap.size + 2, 4, none⟩ = some (.slice a 20 c) := hO.cell 4; have of := hO.frozen)
    go_wp2_with (first | (refine wpList_load_row rfl 29 _ rfl (w.heap.size + 1) rfl 29 (ovCells zeros8).toArray (0, 0) _ (show Blk _ _ (ovCells zeros8) 29 from (by repeat (first | (with_reducible exact hL) | (with_reducible refine Blk.new' _ _ _ _ (by first | omega | (simp; done) | (simp; omega))) | (with_reducible refine Blk.other ?_ (by first | omega | (simp; done) | (simp; omega)) _) | (with_reducible refine Blk.alloc ?_ _) | (with_reducible refine Blk.setRow_other ?_ (by first | omega | (simp; done) | (simp; omega)) _) | (with_reducible refine Blk.drew ?_) | (with_reducible refine Blk.set ?_ _ _)))) Try.underlying29 rfl info29' ?_) | (go_at_call 14; refine stop ?_))
    refine unstop ?_
    clear o0 o1 o2 o3 o4 of
    refine (note14 zeros8 cl 1 ⟨r.why, r.found, r.val, r.ver, (List.take 20 r.ps)⟩ _ _ _ _ rfl (zeros8_ok _ _) (PS.mono (show PS (w1.setCell _ _) (w.heap.size + 3) a1 20 c1 (List.take 20 r.ps) from (by repeat (first | (with_reducible exact hp1) | (with_reducible refine PS.setCell ?_ (by first | omega | (simp; done) | (simp; omega)) _) | (with_reducible refine PS.alloc ?_ _) | (with_reducible refine PS.setRow ?_ (by first | omega | (simp; done) | (simp; omega)) _) | (with_reducible refine PS.drew ?_)))) (Nat.zero_le _)) (by omega)).mono ?_
    rintro e w2 ⟨vs, rfl, h8, hok, hmap, hb⟩
    have hR2 : Blk w2 w.heap.size [.int .i64 r.why, .bool r.found, .string r.val, .int .i64 r.ver, .slice a 20 c] 25 := Blk.below (by repeat (first | (with_reducible exact hR) | (with_reducible refine Blk.new' _ _ _ _ (by first | omega | (simp; done) | (simp; omega))) | (with_reducible refine Blk.other ?_ (by first | omega | (simp; done) | (simp; omega)) _) | (with_reducible refine Blk.alloc ?_ _) | (with_reducible refine Blk.setRow_other ?_ (by first | omega | (simp; done) | (simp; omega)) _) | (with_reducible refine Blk.drew ?_) | (with_reducible refine Blk.set ?_ _ _))) hb (by simp; omega)
    have hO2 : Blk w2 (w.heap.size + 2) [.int .i64 r.why, .bool r.found, .string r.val, .int .i64 r.ver, .slice a1 20 c1] 25 := Blk.below (hO.set 4 (.slice a1 20 c1)) hb (by simp; omega)
    have hp2 : PS w2 (w.heap.size + 3) a1 20 c1 (List.take 20 r.ps) := (show PS (w1.setCell _ _) (w.heap.size + 3) a1 20 c1 (List.take 20 r.ps) from (by repeat (first | (with_reducible exact hp1) | (with_reducible refine PS.setCell ?_ (by first | omega | (simp; done) | (simp; omega)) _) | (with_reducible refine PS.alloc ?_ _) | (with_reducible refine PS.setRow ?_ (by first | omega | (simp; done) | (simp; omega)) _) | (with_reducible refine PS.drew ?_)))).below hb
    have hb2 : Below w.heap.size w w2 := by refine Below.trans ?_ (hb.mono (by simp; omega)); exact (by repeat (first | (with_reducible exact Below.refl _ _) | (with_reducible assumption) | (with_reducible refine Below.setCell ?_ (by first | omega | (simp; done) | (simp; omega)) _) | (with_reducible refine Below.alloc ?_ (by first | omega | (simp; done) | (simp; omega)) _) | (with_reducible refine below_setRow ?_ (by first | omega | (simp; done) | (simp; omega)) _) | (with_reducible refine Below.drew ?_)))
    have hr2 : PS w2 0 a 20 c (List.take 20 r.ps) := (HT.out (by omega)).below hb2
    have hs2 : w1.heap.size ≤ w2.heap.size := by have := hb.size; simpa using this
    have hok2 : Hid (∀ v ∈ vs, v.ok w2 w1.heap.size) := fun v hv => (hok v hv).mono (by simp)
    have h8' := Lib.hid h8
    have hmap' := Lib.hid hmap
    clear hb hR hL hO hb1 hr1 hok h8 hmap
    have hz1 : w.heap.size < w2.heap.size := by omega
    have hz2 : w.heap.size + 2 < w2.heap.size := by omega
    go_wp2_with (first | (refine wpList_store_row rfl 29 _ _ rfl w2.heap.size (ovCells vs).toArray rfl rfl 29 _ (Blk.new' w2 (ovCells zeros8) 29 _ rfl) (ovCells_48 h8'.out) (by rw [List.size_toArray, List.size_toArray, ovCells_len, ovCells_len, h8'.out]; rfl) (ovCells_all _) (stop ?_)))
    refine unstop ?_
    generalize e3 : World.setRow _ _ _ = w3
    have hM3 : Blk w3 w2.heap.size (ovCells vs) 29 := by rw [← e3]; exact Blk.setRow (Blk.new' w2 (ovCells zeros8) 29 _ rfl) _
    have hb3 : Below w2.heap.size w2 w3 := by rw [← e3]; exact (by repeat (first | (with_reducible exact Below.refl _ _) | (with_reducible assumption) | (with_reducible refine Below.setCell ?_ (by first | omega | (simp; done) | (simp; omega)) _) | (with_reducible refine Below.alloc ?_ (by first | omega | (simp; done) | (simp; omega)) _) | (with_reducible refine below_setRow ?_ (by first | omega | (simp; done) | (simp; omega)) _) | (with_reducible refine Below.drew ?_)))
    have hs3 : w3.heap.size = w2.heap.size + 1 := by rw [← e3]; simp [World.setRow]
    clear e3
    have hO3 := hO2.below hb3 hz2
    have hR3 := hR2.below hb3 hz1
    have hp3 := hp2.below hb3
    have hr3 := hr2.below hb3
    have hb3' := hb2.trans (hb3.mono (Nat.le_of_lt hz1))
    have hok3 : Hid (∀ v ∈ vs, v.ok w3 w1.heap.size) := fun v hv => PS.below (hok2.out v hv) hb3
    clear hO2 hR2 hp2 hr2 hok2 hb3 hb2
    (have o0 : w3.cell? ⟨w.heap.size + 2, 0, none⟩ = some (.int .i64 r.why) := hO3.cell 0; have o1 : w3.cell? ⟨w.heap.size + 2, 1, none⟩ = some (.bool r.found) := hO3.cell 1; have o2 : w3.cell? ⟨w.heap.size + 2, 2, none⟩ = some (.string r.val) := hO3.cell 2; have o3 : w3.cell? ⟨w.heap.size + 2, 3, none⟩ = some (.int .i64 r.ver) := hO3.cell 3; have o4 : w3.cell? ⟨w.heap.size + 2, 4, none⟩ = some (.slice a1 20 c1) := hO3.cell 4; have of := hO3.frozen)
    go_wp2_with (first | (go_at_call 15; refine stop ?_))
    refine unstop ?_
    clear o0 o1 o2 o3 o4 of hO3
    refine (turn15 (w.heap.size + 3) _ _ _ (List.take 20 r.ps) _ (by omega) hp3).mono ?_
    rintro e w4 ⟨rfl, ht⟩
    have hM4 := hM3.turned ht hp1 hs2
    have hok4 : Hid (∀ v ∈ vs, v.ok w4 w1.heap.size) := fun v hv => PS.turned (hok3.out v hv) ht hp1 (Nat.le_refl _)
    have hR4 := hR3.below ht.below (by omega)
    have hb4 := hb3'.trans (ht.below.mono (by omega))
    have hr4 := (HT.out (by omega)).below hb4
    have hs4 : w4.heap.size = w2.heap.size + 1 := ht.1.trans hs3
    clear hM3 hok3 hR3 hb3' hr3 ht hp1 hp3 hs3
    go_wp2_with (first | (refine wpList_load_row rfl 29 _ rfl w2.heap.size rfl 29 (ovCells vs).toArray (0, 0) _ hM4 Try.underlying29 rfl (ovCells_48 h8'.out) ?_) | (go_at_call 16; refine stop ?_))
    refine unstop ?_
    obtain ⟨i, hi⟩ : ∃ i : Nat, cl = (i : Int) + 1 := ⟨(cl - 1).toNat, by omega⟩
    obtain ⟨v, hv, hvo⟩ := note_at hmap'.out rfl i hi (by omega)
    refine (look16 vs cl 1 i v w4 h8'.out ((hok4.out v (List.mem_of_getElem? hv)).mono (Nat.zero_le _)) hv hi (by omega)).mono ?_
    rintro e w5 ⟨a5, n5, c5, rfl, hp5, hb⟩
    rw [hvo] at hp5 ⊢
    have HI := Lib.hid hi
    clear hi
    have hM5 := hM4.below hb hM4.lt
    have hok5 : Hid (∀ v ∈ vs, v.ok w5 w1.heap.size) := fun v hv => (hok4.out v hv).below hb
    have hR5 := hR4.below hb hR4.lt
    have hb5 := hb4.trans (hb.mono (Nat.le_of_lt hR4.lt))
    have hr5 := (HT.out (by omega)).below hb5
    have hs5 : w4.heap.size ≤ w5.heap.size := hb.size
    have hlt4 := hM4.lt
    have hokk := hok4
    have hbk := hb
    clear hM4 hok4 hR4 hb4 hr4 hb
    go_wp2_with (first | (go_at_call 15; refine stop ?_))
    refine unstop ?_
    refine (turn15 w4.heap.size _ _ _ (List.take 20 r.ps) _ (by omega) (hp5.alloc _)).mono ?_
    rintro e w6 ⟨rfl, ht⟩
    have hb6' : Below w4.heap.size w5 w6 := by refine Below.trans ?_ ht.below; exact (Below.refl _ _).alloc hs5 _
    have hM6 := hM5.below hb6' hlt4
    have hvl : w4.heap.size ≤ w4.heap.size := Nat.le_refl _
    have hok6 : Hid (∀ v ∈ vs, v.ok w6 w1.heap.size) := fun v hv => (hokk.out v hv).below (hbk.trans hb6')
    have hR6 := hR5.below hb6' (by omega)
    have hb6 := hb5.trans (hb6'.mono (by omega))
    have hr6 := (HT.out (by omega)).below hb6
    have hs6 : w5.heap.size ≤ w6.heap.size := by rw [ht.1]; simp
    clear hM5 hok5 hR5 hb5 hr5 hb6' hp5 ht hvl
    go_wp2_with (first | (refine wpList_load_row rfl 29 _ rfl w2.heap.size rfl 29 (ovCells vs).toArray (0, 0) _ hM6 Try.underlying29 rfl (ovCells_48 h8'.out) ?_) | (go_at_call 14; refine stop ?_))
    refine unstop ?_
    refine (note14 vs (cl % 8 + 1) 1 Rep.zero none 0 0 w6 h8'.out (fun v hv => (hok6.out v hv).mono (Nat.zero_le _)) (PS.nil _ _) (by omega)).mono ?_
    rintro e w7 ⟨us, rfl, g8, gok, gmap, hb⟩
    obtain ⟨u, hu, huo⟩ := note_other gmap i (by have := HI.out; omega) ⟨1, ⟨r.why, r.found, r.val, r.ver, (List.take 20 r.ps)⟩⟩ (by rw [List.getElem?_map, hv, ← hvo]; rfl)
    have hbu : w4.heap.size ≤ w6.heap.size := Nat.le_trans hs5 hs6
    have hR7 := hR6.below hb (by omega)
    have hb7 := hb6.trans (hb.mono (by omega))
    have hr7 := (HT.out (by omega)).below hb7
    have hs7 : w6.heap.size ≤ w7.heap.size := hb.size
    have g8' := Lib.hid g8
    have gok7 : Hid (∀ v ∈ us, v.ok w7 0) := fun v hv => (gok v hv).mono (Nat.zero_le _)
    have hz7 : w.heap.size < w7.heap.size := by omega
    clear hM6 hok6 hokk hbk hR6 hb6 hr6 hb gmap hmap' g8 gok hbu hvo hv
    go_wp2_with (first | (refine wpList_store_row rfl 29 _ _ rfl w7.heap.size (ovCells us).toArray rfl rfl 29 _ (Blk.new' w7 (ovCells zeros8) 29 _ rfl) (ovCells_48 g8'.out) (by rw [List.size_toArray, List.size_toArray, ovCells_len, ovCells_len, g8'.out]; rfl) (ovCells_all _) (stop ?_)))
    refine unstop ?_
    generalize e8 : World.setRow _ _ _ = w8
    have hM8 : Blk w8 w7.heap.size (ovCells us) 29 := by rw [← e8]; exact Blk.setRow (Blk.new' w7 (ovCells zeros8) 29 _ rfl) _
    have hb8' : Below w7.heap.size w7 w8 := by rw [← e8]; exact (by repeat (first | (with_reducible exact Below.refl _ _) | (with_reducible assumption) | (with_reducible refine Below.setCell ?_ (by first | omega | (simp; done) | (simp; omega)) _) | (with_reducible refine Below.alloc ?_ (by first | omega | (simp; done) | (simp; omega)) _) | (with_reducible refine below_setRow ?_ (by first | omega | (simp; done) | (simp; omega)) _) | (with_reducible refine Below.drew ?_)))
    clear e8
    have hR8 := hR7.below hb8' hz7
    have hb8 := hb7.trans (hb8'.mono (Nat.le_of_lt hz7))
    have hr8 := hr7.below hb8'
    have gok8 : Hid (∀ v ∈ us, v.ok w8 0) := fun v hv => (gok7.out v hv).below hb8'
    have hlt8 := hM8.lt
    clear hR7 hb7 hr7 gok7 hb8'
    go_wp2_with (first | (refine wpList_load_row rfl 29 _ rfl w7.heap.size rfl 29 (ovCells us).toArray (0, 0) _ hM8 Try.underlying29 rfl (ovCells_48 g8'.out) ?_) | (go_at_call 16; refine stop ?_))
    refine unstop ?_
    refine (look16 us cl 1 i u w8 g8'.out (gok8.out u (List.mem_of_getElem? hu)) hu HI.out (by have := HI.out; omega)).mono ?_
    rintro e w9 ⟨a9, n9, c9, rfl, hp9, hb⟩
    rw [huo] at hp9 ⊢
    have hM9 := hM8.below hb hM8.lt
    have hR9 := hR8.below hb hR8.lt
    have hb9 := hb8.trans (hb.mono (Nat.le_of_lt hR8.lt))
    have hr9 := (HT.out (by omega)).below hb9
    have gok9 : Hid (∀ v ∈ us, v.ok w9 0) := fun v hv => (gok8.out v hv).below hb
    have hs9 : w8.heap.size ≤ w9.heap.size := hb.size
    have hlt9 := hR8.lt
    have gokk := gok8
    have hbk := hb
    clear hM8 hR8 hb8 hr8 gok8 hb
    go_wp2_with (first | (go_at_call 15; refine stop ?_))
    refine unstop ?_
    refine (turn15 w8.heap.size _ _ _ (List.take 20 r.ps) _ (by omega) (hp9.alloc _)).mono ?_
    rintro e x ⟨rfl, ht⟩
    have hbx' : Below w8.heap.size w9 x := by refine Below.trans ?_ ht.below; exact (Below.refl _ _).alloc hs9 _
    have hMx := hM9.below hbx' hlt8
    have gokx : Hid (∀ v ∈ us, v.ok x 0) := fun v hv => (gokk.out v hv).below (hbk.trans hbx')
    have hRx := hR9.below hbx' hlt9
    have hbx := hb9.trans (hbx'.mono (Nat.le_of_lt hlt9))
    have hrx := (HT.out (by omega)).below hbx
    clear hM9 gok9 hR9 hb9 hr9 hbx' hp9 ht gokk hbk
    go_wp2_with (first | (refine wpList_load_row rfl 29 _ rfl w7.heap.size rfl 29 (ovCells us).toArray (0, 0) _ hMx Try.underlying29 rfl (ovCells_48 g8'.out) ?_) | (go_at_call 16; refine stop ?_))
    refine unstop ?_
    refine (look16 us cl 1 i u x g8'.out (gokx.out u (List.mem_of_getElem? hu)) hu HI.out (by have := HI.out; omega)).mono ?_
    rintro e y ⟨ay, ny, cy, rfl, hpy, hb⟩
    rw [huo] at hpy ⊢
    have hRy := hRx.below hb hRx.lt
    have hby := hbx.trans (hb.mono (Nat.le_of_lt hRx.lt))
    have hry := (HT.out (by omega)).below hby
    have hzy : w.heap.size < y.heap.size := hRy.lt
    clear hMx gokx hRx hbx hrx hb
    (have o0 : y.cell? ⟨w.heap.size, 0, none⟩ = some (.int .i64 r.why) := hRy.cell 0; have o1 : y.cell? ⟨w.heap.size, 1, none⟩ = some (.bool r.found) := hRy.cell 1; have o2 : y.cell? ⟨w.heap.size, 2, none⟩ = some (.string r.val) := hRy.cell 2; have o3 : y.cell? ⟨w.heap.size, 3, none⟩ = some (.int .i64 r.ver) := hRy.cell 3; have o4 : y.cell? ⟨w.heap.size, 4, none⟩ = some (.slice a 20 c) := hRy.cell 4; have of := hRy.frozen)
    go_wp2_with (first | (go_at_call 17; refine stop ?_))
    refine unstop ?_
    clear o0 o1 o2 o3 o4 of
    refine (replies17 ⟨r.why, r.found, r.val, r.ver, (List.take 20 r.ps)⟩ ⟨r.why, r.found, r.val, r.ver, (List.take 20 r.ps)⟩ _ _ _ _ _ _ _ (PS.mono (hpy.alloc _) (Nat.zero_le _)) (hry.alloc _)).mono ?_
    rintro e z ⟨rfl, hb⟩
    have hz : Below w.heap.size w z := by refine Below.trans ?_ (hb.mono (by simp; omega)); exact (by repeat (first | (with_reducible exact Below.refl _ _) | (with_reducible assumption) | (with_reducible refine Below.setCell ?_ (by first | omega | (simp; done) | (simp; omega)) _) | (with_reducible refine Below.alloc ?_ (by first | omega | (simp; done) | (simp; omega)) _) | (with_reducible refine below_setRow ?_ (by first | omega | (simp; done) | (simp; omega)) _) | (with_reducible refine Below.drew ?_)))
    rw [show Rep.same ⟨r.why, r.found, r.val, r.ver, (List.take 20 r.ps)⟩ ⟨r.why, r.found, r.val, r.ver, (List.take 20 r.ps)⟩ = true by simp [Rep.same]]
    clear hpy hry hby hRy hb
    go_wp2_with (first | (go_at_call 18; refine stop ?_))
    refine unstop ?_
    refine (runs18 _).mono ?_
    rintro e z2 ⟨rfl, hb⟩
    have hz2 : Below w.heap.size w z2 := hz.trans (hb.mono hz.size)
    clear hb
    go_wp2
    go_ret
    exact ⟨rfl, hz2⟩
  · refine unstop ?_
    have hbl : Below (w.heap.size + 3) _ w1 := (Below.refl _ _).grown hg1 (by simp; done) (fun k hk => by cases hk; exact Nat.le_refl _)
    have hR : Blk w1 w.heap.size [.int .i64 r.why, .bool r.found, .string r.val, .int .i64 r.ver, .slice a n c] 25 := Blk.below (by repeat (first | (with_reducible exact h) | (with_reducible refine Blk.new' _ _ _ _ (by first | omega | (simp; done) | (simp; omega))) | (with_reducible refine Blk.other ?_ (by first | omega | (simp; done) | (simp; omega)) _) | (with_reducible refine Blk.alloc ?_ _) | (with_reducible refine Blk.setRow_other ?_ (by first | omega | (simp; done) | (simp; omega)) _) | (with_reducible refine Blk.drew ?_) | (with_reducible refine Blk.set ?_ _ _))) hbl (by omega)
    have hL : Blk w1 (w.heap.size + 1) (ovCells zeros8) 29 := Blk.below (Blk.alloc (Blk.alloc (Blk.new' _ (ovCells zeros8) 29 _ (by simp; done)) _) _) hbl (by omega)
    have hO : Blk w1 (w.heap.size + 2) [.int .i64 r.why, .bool r.found, .string r.val, .int .i64 r.ver, .slice a n c] 25 := Blk.below (by repeat (first | (with_reducible exact h) | (with_reducible refine Blk.new' _ _ _ _ (by first | omega | (simp; done) | (simp; omega))) | (with_reducible refine Blk.other ?_ (by first | omega | (simp; done) | (simp; omega)) _) | (with_reducible refine Blk.alloc ?_ _) | (with_reducible refine Blk.setRow_other ?_ (by first | omega | (simp; done) | (simp; omega)) _) | (with_reducible refine Blk.drew ?_) | (with_reducible refine Blk.set ?_ _ _))) hbl (by omega)
    have hs1 : w.heap.size + 3 < w1.heap.size := by have := hbl.size; simp at this; omega
    have hb1 : Below w.heap.size w w1 := by refine Below.trans ?_ (hbl.mono (by omega)); exact (by repeat (first | (with_reducible exact Below.refl _ _) | (with_reducible assumption) | (with_reducible refine Below.setCell ?_ (by first | omega | (simp; done) | (simp; omega)) _) | (with_reducible refine Below.alloc ?_ (by first | omega | (simp; done) | (simp; omega)) _) | (with_reducible refine below_setRow ?_ (by first | omega | (simp; done) | (simp; omega)) _) | (with_reducible refine Below.drew ?_)))
    have hr1 : PS w1 0 a n c r.ps := h.below hb1
    clear hbl hg1 h hT
    (have o0 : w1.cell? ⟨w.heap.size + 2, 0, none⟩ = some (.int .i64 r.why) := hO.cell 0; have o1 : w1.cell? ⟨w.heap.size + 2, 1, none⟩ = some (.bool r.found) := hO.cell 1; have o2 : w1.cell? ⟨w.heap.size + 2, 2, none⟩ = some (.string r.val) := hO.cell 2; have o3 : w1.cell? ⟨w.heap.size + 2, 3, none⟩ = some (.int .i64 r.ver) := hO.cell 3; have o4 : w1.cell? ⟨w.heap.size + 2, 4, none⟩ = some (.slice a n c) := hO.cell 4; have of := hO.frozen)
    go_wp2_with (first | (refine wpList_load_row rfl 29 _ rfl (w.heap.size + 1) rfl 29 (ovCells zeros8).toArray (0, 0) _ (show Blk _ _ (ovCells zeros8) 29 from (by repeat (first | (with_reducible exact hL) | (with_reducible refine Blk.new' _ _ _ _ (by first | omega | (simp; done) | (simp; omega))) | (with_reducible refine Blk.other ?_ (by first | omega | (simp; done) | (simp; omega)) _) | (with_reducible refine Blk.alloc ?_ _) | (with_reducible refine Blk.setRow_other ?_ (by first | omega | (simp; done) | (simp; omega)) _) | (with_reducible refine Blk.drew ?_) | (with_reducible refine Blk.set ?_ _ _)))) Try.underlying29 rfl info29' ?_) | (go_at_call 14; refine stop ?_))
    refine unstop ?_
    clear o0 o1 o2 o3 o4 of
    refine (note14 zeros8 cl 1 ⟨r.why, r.found, r.val, r.ver, r.ps⟩ _ _ _ _ rfl (zeros8_ok _ _) (PS.mono (show PS (w1.setCell _ _) (w.heap.size + 3) a1 n c1 r.ps from (by repeat (first | (with_reducible exact hp1) | (with_reducible refine PS.setCell ?_ (by first | omega | (simp; done) | (simp; omega)) _) | (with_reducible refine PS.alloc ?_ _) | (with_reducible refine PS.setRow ?_ (by first | omega | (simp; done) | (simp; omega)) _) | (with_reducible refine PS.drew ?_)))) (Nat.zero_le _)) (by omega)).mono ?_
    rintro e w2 ⟨vs, rfl, h8, hok, hmap, hb⟩
    have hR2 : Blk w2 w.heap.size [.int .i64 r.why, .bool r.found, .string r.val, .int .i64 r.ver, .slice a n c] 25 := Blk.below (by repeat (first | (with_reducible exact hR) | (with_reducible refine Blk.new' _ _ _ _ (by first | omega | (simp; done) | (simp; omega))) | (with_reducible refine Blk.other ?_ (by first | omega | (simp; done) | (simp; omega)) _) | (with_reducible refine Blk.alloc ?_ _) | (with_reducible refine Blk.setRow_other ?_ (by first | omega | (simp; done) | (simp; omega)) _) | (with_reducible refine Blk.drew ?_) | (with_reducible refine Blk.set ?_ _ _))) hb (by simp; omega)
    have hO2 : Blk w2 (w.heap.size + 2) [.int .i64 r.why, .bool r.found, .string r.val, .int .i64 r.ver, .slice a1 n c1] 25 := Blk.below (hO.set 4 (.slice a1 n c1)) hb (by simp; omega)
    have hp2 : PS w2 (w.heap.size + 3) a1 n c1 r.ps := (show PS (w1.setCell _ _) (w.heap.size + 3) a1 n c1 r.ps from (by repeat (first | (with_reducible exact hp1) | (with_reducible refine PS.setCell ?_ (by first | omega | (simp; done) | (simp; omega)) _) | (with_reducible refine PS.alloc ?_ _) | (with_reducible refine PS.setRow ?_ (by first | omega | (simp; done) | (simp; omega)) _) | (with_reducible refine PS.drew ?_)))).below hb
    have hb2 : Below w.heap.size w w2 := by refine Below.trans ?_ (hb.mono (by simp; omega)); exact (by repeat (first | (with_reducible exact Below.refl _ _) | (with_reducible assumption) | (with_reducible refine Below.setCell ?_ (by first | omega | (simp; done) | (simp; omega)) _) | (with_reducible refine Below.alloc ?_ (by first | omega | (simp; done) | (simp; omega)) _) | (with_reducible refine below_setRow ?_ (by first | omega | (simp; done) | (simp; omega)) _) | (with_reducible refine Below.drew ?_)))
    have hr2 : PS w2 0 a n c r.ps := H0.out.below hb2
    have hs2 : w1.heap.size ≤ w2.heap.size := by have := hb.size; simpa using this
    have hok2 : Hid (∀ v ∈ vs, v.ok w2 w1.heap.size) := fun v hv => (hok v hv).mono (by simp)
    have h8' := Lib.hid h8
    have hmap' := Lib.hid hmap
    clear hb hR hL hO hb1 hr1 hok h8 hmap
    have hz1 : w.heap.size < w2.heap.size := by omega
    have hz2 : w.heap.size + 2 < w2.heap.size := by omega
    go_wp2_with (first | (refine wpList_store_row rfl 29 _ _ rfl w2.heap.size (ovCells vs).toArray rfl rfl 29 _ (Blk.new' w2 (ovCells zeros8) 29 _ rfl) (ovCells_48 h8'.out) (by rw [List.size_toArray, List.size_toArray, ovCells_len, ovCells_len, h8'.out]; rfl) (ovCells_all _) (stop ?_)))
    refine unstop ?_
    generalize e3 : World.setRow _ _ _ = w3
    have hM3 : Blk w3 w2.heap.size (ovCells vs) 29 := by rw [← e3]; exact Blk.setRow (Blk.new' w2 (ovCells zeros8) 29 _ rfl) _
    have hb3 : Below w2.heap.size w2 w3 := by rw [← e3]; exact (by repeat (first | (with_reducible exact Below.refl _ _) | (with_reducible assumption) | (with_reducible refine Below.setCell ?_ (by first | omega | (simp; done) | (simp; omega)) _) | (with_reducible refine Below.alloc ?_ (by first | omega | (simp; done) | (simp; omega)) _) | (with_reducible refine below_setRow ?_ (by first | omega | (simp; done) | (simp; omega)) _) | (with_reducible refine Below.drew ?_)))
    have hs3 : w3.heap.size = w2.heap.size + 1 := by rw [← e3]; simp [World.setRow]
    clear e3
    have hO3 := hO2.below hb3 hz2
    have hR3 := hR2.below hb3 hz1
    have hp3 := hp2.below hb3
    have hr3 := hr2.below hb3
    have hb3' := hb2.trans (hb3.mono (Nat.le_of_lt hz1))
    have hok3 : Hid (∀ v ∈ vs, v.ok w3 w1.heap.size) := fun v hv => PS.below (hok2.out v hv) hb3
    clear hO2 hR2 hp2 hr2 hok2 hb3 hb2
    (have o0 : w3.cell? ⟨w.heap.size + 2, 0, none⟩ = some (.int .i64 r.why) := hO3.cell 0; have o1 : w3.cell? ⟨w.heap.size + 2, 1, none⟩ = some (.bool r.found) := hO3.cell 1; have o2 : w3.cell? ⟨w.heap.size + 2, 2, none⟩ = some (.string r.val) := hO3.cell 2; have o3 : w3.cell? ⟨w.heap.size + 2, 3, none⟩ = some (.int .i64 r.ver) := hO3.cell 3; have o4 : w3.cell? ⟨w.heap.size + 2, 4, none⟩ = some (.slice a1 n c1) := hO3.cell 4; have of := hO3.frozen)
    go_wp2_with (first | (go_at_call 15; refine stop ?_))
    refine unstop ?_
    clear o0 o1 o2 o3 o4 of hO3
    refine (turn15 (w.heap.size + 3) _ _ _ r.ps _ (by omega) hp3).mono ?_
    rintro e w4 ⟨rfl, ht⟩
    have hM4 := hM3.turned ht hp1 hs2
    have hok4 : Hid (∀ v ∈ vs, v.ok w4 w1.heap.size) := fun v hv => PS.turned (hok3.out v hv) ht hp1 (Nat.le_refl _)
    have hR4 := hR3.below ht.below (by omega)
    have hb4 := hb3'.trans (ht.below.mono (by omega))
    have hr4 := H0.out.below hb4
    have hs4 : w4.heap.size = w2.heap.size + 1 := ht.1.trans hs3
    clear hM3 hok3 hR3 hb3' hr3 ht hp1 hp3 hs3
    go_wp2_with (first | (refine wpList_load_row rfl 29 _ rfl w2.heap.size rfl 29 (ovCells vs).toArray (0, 0) _ hM4 Try.underlying29 rfl (ovCells_48 h8'.out) ?_) | (go_at_call 16; refine stop ?_))
    refine unstop ?_
    obtain ⟨i, hi⟩ : ∃ i : Nat, cl = (i : Int) + 1 := ⟨(cl - 1).toNat, by omega⟩
    obtain ⟨v, hv, hvo⟩ := note_at hmap'.out rfl i hi (by omega)
    refine (look16 vs cl 1 i v w4 h8'.out ((hok4.out v (List.mem_of_getElem? hv)).mono (Nat.zero_le _)) hv hi (by omega)).mono ?_
    rintro e w5 ⟨a5, n5, c5, rfl, hp5, hb⟩
    rw [hvo] at hp5 ⊢
    have HI := Lib.hid hi
    clear hi
    have hM5 := hM4.below hb hM4.lt
    have hok5 : Hid (∀ v ∈ vs, v.ok w5 w1.heap.size) := fun v hv => (hok4.out v hv).below hb
    have hR5 := hR4.below hb hR4.lt
    have hb5 := hb4.trans (hb.mono (Nat.le_of_lt hR4.lt))
    have hr5 := H0.out.below hb5
    have hs5 : w4.heap.size ≤ w5.heap.size := hb.size
    have hlt4 := hM4.lt
    have hokk := hok4
    have hbk := hb
    clear hM4 hok4 hR4 hb4 hr4 hb
    go_wp2_with (first | (go_at_call 15; refine stop ?_))
    refine unstop ?_
    refine (turn15 w4.heap.size _ _ _ r.ps _ (by omega) (hp5.alloc _)).mono ?_
    rintro e w6 ⟨rfl, ht⟩
    have hb6' : Below w4.heap.size w5 w6 := by refine Below.trans ?_ ht.below; exact (Below.refl _ _).alloc hs5 _
    have hM6 := hM5.below hb6' hlt4
    have hvl : w4.heap.size ≤ w4.heap.size := Nat.le_refl _
    have hok6 : Hid (∀ v ∈ vs, v.ok w6 w1.heap.size) := fun v hv => (hokk.out v hv).below (hbk.trans hb6')
    have hR6 := hR5.below hb6' (by omega)
    have hb6 := hb5.trans (hb6'.mono (by omega))
    have hr6 := H0.out.below hb6
    have hs6 : w5.heap.size ≤ w6.heap.size := by rw [ht.1]; simp
    clear hM5 hok5 hR5 hb5 hr5 hb6' hp5 ht hvl
    go_wp2_with (first | (refine wpList_load_row rfl 29 _ rfl w2.heap.size rfl 29 (ovCells vs).toArray (0, 0) _ hM6 Try.underlying29 rfl (ovCells_48 h8'.out) ?_) | (go_at_call 14; refine stop ?_))
    refine unstop ?_
    refine (note14 vs (cl % 8 + 1) 1 Rep.zero none 0 0 w6 h8'.out (fun v hv => (hok6.out v hv).mono (Nat.zero_le _)) (PS.nil _ _) (by omega)).mono ?_
    rintro e w7 ⟨us, rfl, g8, gok, gmap, hb⟩
    obtain ⟨u, hu, huo⟩ := note_other gmap i (by have := HI.out; omega) ⟨1, ⟨r.why, r.found, r.val, r.ver, r.ps⟩⟩ (by rw [List.getElem?_map, hv, ← hvo]; rfl)
    have hbu : w4.heap.size ≤ w6.heap.size := Nat.le_trans hs5 hs6
    have hR7 := hR6.below hb (by omega)
    have hb7 := hb6.trans (hb.mono (by omega))
    have hr7 := H0.out.below hb7
    have hs7 : w6.heap.size ≤ w7.heap.size := hb.size
    have g8' := Lib.hid g8
    have gok7 : Hid (∀ v ∈ us, v.ok w7 0) := fun v hv => (gok v hv).mono (Nat.zero_le _)
    have hz7 : w.heap.size < w7.heap.size := by omega
    clear hM6 hok6 hokk hbk hR6 hb6 hr6 hb gmap hmap' g8 gok hbu hvo hv
    go_wp2_with (first | (refine wpList_store_row rfl 29 _ _ rfl w7.heap.size (ovCells us).toArray rfl rfl 29 _ (Blk.new' w7 (ovCells zeros8) 29 _ rfl) (ovCells_48 g8'.out) (by rw [List.size_toArray, List.size_toArray, ovCells_len, ovCells_len, g8'.out]; rfl) (ovCells_all _) (stop ?_)))
    refine unstop ?_
    generalize e8 : World.setRow _ _ _ = w8
    have hM8 : Blk w8 w7.heap.size (ovCells us) 29 := by rw [← e8]; exact Blk.setRow (Blk.new' w7 (ovCells zeros8) 29 _ rfl) _
    have hb8' : Below w7.heap.size w7 w8 := by rw [← e8]; exact (by repeat (first | (with_reducible exact Below.refl _ _) | (with_reducible assumption) | (with_reducible refine Below.setCell ?_ (by first | omega | (simp; done) | (simp; omega)) _) | (with_reducible refine Below.alloc ?_ (by first | omega | (simp; done) | (simp; omega)) _) | (with_reducible refine below_setRow ?_ (by first | omega | (simp; done) | (simp; omega)) _) | (with_reducible refine Below.drew ?_)))
    clear e8
    have hR8 := hR7.below hb8' hz7
    have hb8 := hb7.trans (hb8'.mono (Nat.le_of_lt hz7))
    have hr8 := hr7.below hb8'
    have gok8 : Hid (∀ v ∈ us, v.ok w8 0) := fun v hv => (gok7.out v hv).below hb8'
    have hlt8 := hM8.lt
    clear hR7 hb7 hr7 gok7 hb8'
    go_wp2_with (first | (refine wpList_load_row rfl 29 _ rfl w7.heap.size rfl 29 (ovCells us).toArray (0, 0) _ hM8 Try.underlying29 rfl (ovCells_48 g8'.out) ?_) | (go_at_call 16; refine stop ?_))
    refine unstop ?_
    refine (look16 us cl 1 i u w8 g8'.out (gok8.out u (List.mem_of_getElem? hu)) hu HI.out (by have := HI.out; omega)).mono ?_
    rintro e w9 ⟨a9, n9, c9, rfl, hp9, hb⟩
    rw [huo] at hp9 ⊢
    have hM9 := hM8.below hb hM8.lt
    have hR9 := hR8.below hb hR8.lt
    have hb9 := hb8.trans (hb.mono (Nat.le_of_lt hR8.lt))
    have hr9 := H0.out.below hb9
    have gok9 : Hid (∀ v ∈ us, v.ok w9 0) := fun v hv => (gok8.out v hv).below hb
    have hs9 : w8.heap.size ≤ w9.heap.size := hb.size
    have hlt9 := hR8.lt
    have gokk := gok8
    have hbk := hb
    clear hM8 hR8 hb8 hr8 gok8 hb
    go_wp2_with (first | (go_at_call 15; refine stop ?_))
    refine unstop ?_
    refine (turn15 w8.heap.size _ _ _ r.ps _ (by omega) (hp9.alloc _)).mono ?_
    rintro e x ⟨rfl, ht⟩
    have hbx' : Below w8.heap.size w9 x := by refine Below.trans ?_ ht.below; exact (Below.refl _ _).alloc hs9 _
    have hMx := hM9.below hbx' hlt8
    have gokx : Hid (∀ v ∈ us, v.ok x 0) := fun v hv => (gokk.out v hv).below (hbk.trans hbx')
    have hRx := hR9.below hbx' hlt9
    have hbx := hb9.trans (hbx'.mono (Nat.le_of_lt hlt9))
    have hrx := H0.out.below hbx
    clear hM9 gok9 hR9 hb9 hr9 hbx' hp9 ht gokk hbk
    go_wp2_with (first | (refine wpList_load_row rfl 29 _ rfl w7.heap.size rfl 29 (ovCells us).toArray (0, 0) _ hMx Try.underlying29 rfl (ovCells_48 g8'.out) ?_) | (go_at_call 16; refine stop ?_))
    refine unstop ?_
    refine (look16 us cl 1 i u x g8'.out (gokx.out u (List.mem_of_getElem? hu)) hu HI.out (by have := HI.out; omega)).mono ?_
    rintro e y ⟨ay, ny, cy, rfl, hpy, hb⟩
    rw [huo] at hpy ⊢
    have hRy := hRx.below hb hRx.lt
    have hby := hbx.trans (hb.mono (Nat.le_of_lt hRx.lt))
    have hry := H0.out.below hby
    have hzy : w.heap.size < y.heap.size := hRy.lt
    clear hMx gokx hRx hbx hrx hb
    (have o0 : y.cell? ⟨w.heap.size, 0, none⟩ = some (.int .i64 r.why) := hRy.cell 0; have o1 : y.cell? ⟨w.heap.size, 1, none⟩ = some (.bool r.found) := hRy.cell 1; have o2 : y.cell? ⟨w.heap.size, 2, none⟩ = some (.string r.val) := hRy.cell 2; have o3 : y.cell? ⟨w.heap.size, 3, none⟩ = some (.int .i64 r.ver) := hRy.cell 3; have o4 : y.cell? ⟨w.heap.size, 4, none⟩ = some (.slice a n c) := hRy.cell 4; have of := hRy.frozen)
    go_wp2_with (first | (go_at_call 17; refine stop ?_))
    refine unstop ?_
    clear o0 o1 o2 o3 o4 of
    refine (replies17 ⟨r.why, r.found, r.val, r.ver, r.ps⟩ ⟨r.why, r.found, r.val, r.ver, r.ps⟩ _ _ _ _ _ _ _ (PS.mono (hpy.alloc _) (Nat.zero_le _)) (hry.alloc _)).mono ?_
    rintro e z ⟨rfl, hb⟩
    have hz : Below w.heap.size w z := by refine Below.trans ?_ (hb.mono (by simp; omega)); exact (by repeat (first | (with_reducible exact Below.refl _ _) | (with_reducible assumption) | (with_reducible refine Below.setCell ?_ (by first | omega | (simp; done) | (simp; omega)) _) | (with_reducible refine Below.alloc ?_ (by first | omega | (simp; done) | (simp; omega)) _) | (with_reducible refine below_setRow ?_ (by first | omega | (simp; done) | (simp; omega)) _) | (with_reducible refine Below.drew ?_)))
    rw [show Rep.same ⟨r.why, r.found, r.val, r.ver, r.ps⟩ ⟨r.why, r.found, r.val, r.ver, r.ps⟩ = true by simp [Rep.same]]
    clear hpy hry hby hRy hb
    go_wp2_with (first | (go_at_call 18; refine stop ?_))
    refine unstop ?_
    refine (runs18 _).mono ?_
    rintro e z2 ⟨rfl, hb⟩
    have hz2 : Below w.heap.size w z2 := hz.trans (hb.mono hz.size)
    clear hb
    go_wp2
    go_ret
    exact ⟨rfl, hz2⟩
end Go.Proofs.Ythdcdckmmfdfgaa
