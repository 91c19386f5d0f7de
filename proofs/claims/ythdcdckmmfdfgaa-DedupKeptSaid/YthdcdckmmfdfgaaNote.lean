/- dedup.Note and dedup.Look: what each returns, and that nothing that was there turns. -/
import Derived.Test.YthdcdckmmfdfgaaDedup
set_option linter.unusedVariables false
set_option linter.unusedSimpArgs false
namespace Go.Proofs.Ythdcdckmmfdfgaa
open Go.RowKit

/-- a reply, an owner -/
structure Rep where
  why : Int
  found : Bool
  val : ByteArray
  ver : Int
  ps : List Pr
  deriving DecidableEq
structure Own where
  seq : Int
  rep : Rep
  deriving DecidableEq
def Rep.zero : Rep := ⟨0, false, ⟨#[]⟩, 0, []⟩
def Own.zero : Own := ⟨0, Rep.zero⟩

/-- an owner and where its pairs lie -/
structure OV where
  o : Own
  a : Option Addr
  n : Nat
  c : Nat
def OV.cells (v : OV) : List Value := [.int .i64 v.o.seq, .int .i64 v.o.rep.why, .bool v.o.rep.found, .string v.o.rep.val, .int .i64 v.o.rep.ver, .slice v.a v.n v.c]
theorem OV.cells_len (v : OV) : v.cells.length = 6 := rfl
def ovCells (l : List OV) : List Value := l.flatMap OV.cells
theorem ovCells_len (l : List OV) : (ovCells l).length = l.length * 6 := flat_len _ 6 OV.cells_len l
theorem ovCells_get (l : List OV) (i j : Nat) (hj : j < 6) (hi : i < l.length) : (ovCells l)[i * 6 + j]? = (l[i].cells)[j]? := by
  unfold ovCells; rw [flat_get _ 6 OV.cells_len l i j hj]; simp [hi]
def OV.ok (w : World) (B : Nat) (v : OV) : Prop := PS w B v.a v.n v.c v.o.rep.ps

def note (l : List Own) (client seq : Int) (r : Rep) : List Own := if 1 ≤ client ∧ client ≤ 8 then l.set (client.toNat - 1) ⟨seq, r⟩ else l

def RetOwners (B : Nat) (os : List Own) (w : World) (e : Ending) (w' : World) : Prop :=
  ∃ vs : List OV, e = .returned (.agg (ovCells vs).toArray) ∧ vs.length = 8 ∧ (∀ v ∈ vs, v.ok w' B) ∧ vs.map OV.o = os ∧ Below B w w'


theorem ovCells_set (l : List OV) (i j : Nat) (ys : List Value) (x y : OV) (hi : l[i]? = some y) (hj : j + ys.length ≤ 6) (hx : x.cells = setMany y.cells j ys) :
    setMany (ovCells l) (i * 6 + j) ys = ovCells (l.set i x) := flat_set OV.cells 6 OV.cells_len l i j ys x y hi hj hx

theorem info29 : (Try.prog.info? 29).map (·.size) = some 48 := by kernel_rfl
theorem ovCells_one (l : List OV) : ∀ u ∈ ovCells l, u.oneCell' = true := by
  intro u hu
  simp only [ovCells, List.mem_flatMap] at hu
  obtain ⟨p, _, hp⟩ := hu
  simp only [OV.cells, List.mem_cons, List.not_mem_nil, or_false] at hp
  rcases hp with rfl | rfl | rfl | rfl | rfl | rfl <;> rfl
theorem ovCells_all (l : List OV) : (ovCells l).toArray.all (·.oneCell') = true :=
  Array.all_eq_true_iff_forall_mem.2 (fun v hv => ovCells_one l v (by simpa using hv))
theorem ovCells_48 {l : List OV} (h : l.length = 8) : (Try.prog.info? 29).map (·.size) = some (ovCells l).toArray.size := by
  rw [info29, List.size_toArray, ovCells_len, h]

/-- what Note's loop holds behind k rounds: the row of owners in block B, the first k of them with their pairs in new memory -/
def NoteR (w : World) (os : List Own) (B k : Nat) (wr : World) : Prop :=
  ∃ vs : List OV, Blk wr B (ovCells vs) 29 ∧ vs.length = 8 ∧ vs.map OV.o = os ∧ Below B w wr ∧ B + 2 < wr.heap.size ∧ (∃ cs : List Value, cs.length = 48 ∧ Blk wr (B + 2) cs 29) ∧
    ∀ i v, vs[i]? = some v → (i < k → v.ok wr (B + 3)) ∧ (k ≤ i → v.ok w 0)

set_option maxHeartbeats 1000000 in
theorem note14 (vs : List OV) (client seq : Int) (r : Rep) (a : Option Addr) (n c : Nat) (w : World) (hvs : vs.length = 8) (hok : ∀ v ∈ vs, v.ok w 0) (h : PS w 0 a n c r.ps) (hcl : 1 ≤ client ∧ client ≤ 8) :
    Calls Try.prog 14 #[.agg (ovCells vs).toArray, .int .i64 client, .int .i64 seq, .agg #[.int .i64 r.why, .bool r.found, .string r.val, .int .i64 r.ver, .slice a n c]] w
      (RetOwners w.heap.size (note (vs.map OV.o) client seq r) w) := by
  obtain ⟨i, rfl⟩ : ∃ i : Nat, client = (i : Int) + 1 := ⟨(client - 1).toNat, by omega⟩
  have hc2 : i < 8 := by omega
  have hil : i < vs.length := by omega
  have e0 := ovCells_get vs i 0 (by omega) hil
  have e1 := ovCells_get vs i 1 (by omega) hil
  have e2 := ovCells_get vs i 2 (by omega) hil
  have e3 := ovCells_get vs i 3 (by omega) hil
  have e4 := ovCells_get vs i 4 (by omega) hil
  have e5 := ovCells_get vs i 5 (by omega) hil
  simp [OV.cells] at e0 e1 e2 e3 e4 e5
  go_enter Try.func14, Try.ntmps14
  go_wp2_with (go_at_call 66; refine (known66 _ _ ⟨by omega, by omega⟩).mono ?_; rintro e w' ⟨rfl, rfl⟩)
  go_loopw [18] (fun t wr => ∃ k : Nat, k ≤ 8 ∧ t = .int .i64 k ∧ NoteR w (note (vs.map OV.o) (i + 1) seq r) w.heap.size k wr) (fun t _ => 8 - (intOf t).toNat)
  case atStart =>
    refine ⟨0, by omega, rfl, vs.set i ⟨⟨seq, r⟩, a, n, c⟩, ?_, by simp [hvs], ?_, ?_, by simp, ⟨_, ?_, Blk.new' _ _ _ _ (by simp)⟩, ?_⟩
    · have := ovCells_set vs i 0 [.int .i64 seq, .int .i64 r.why, .bool r.found, .string r.val, .int .i64 r.ver, .slice a n c] ⟨⟨seq, r⟩, a, n, c⟩ vs[i] (List.getElem?_eq_getElem hil) (by simp) rfl
      simp only [setMany, Nat.add_zero] at this
      rw [← this]
      exact ((Blk.new w _ _).alloc _).alloc _
    · rw [note, if_pos (by omega), List.map_set, show ((i : Int) + 1).toNat - 1 = i by omega]
    · exact (((Below.refl _ _).alloc (Nat.le_refl _) _).alloc (by simp) _).alloc (by simp; omega) _
    · rfl
    · intro j v hj
      refine ⟨fun h => absurd h (Nat.not_lt_zero _), fun _ => ?_⟩
      by_cases hji : j = i
      · subst hji
        simp [hil] at hj
        subst hj
        exact h
      · rw [List.getElem?_set_ne (fun h => hji h.symm)] at hj
        exact hok v (List.mem_of_getElem? hj)
  case round =>
    obtain ⟨k, hk, rfl, vs', hblk, hlen, hmap, hbel, hsz, ⟨cs, hcl', hbr⟩, hrd⟩ := hrel
    clear e0 e1 e2 e3 e4 e5 hok h
    by_cases hlt : k < 8
    · have hkl : k < vs'.length := by omega
      have e1 := ovCells_get vs' k 1 (by omega) hkl
      have e2 := ovCells_get vs' k 2 (by omega) hkl
      have e3 := ovCells_get vs' k 3 (by omega) hkl
      have e4 := ovCells_get vs' k 4 (by omega) hkl
      have e5 := ovCells_get vs' k 5 (by omega) hkl
      have hv := List.getElem?_eq_getElem hkl
      obtain ⟨x, hx⟩ : ∃ x, x = vs'[k] := ⟨_, rfl⟩
      rw [← hx] at e1 e2 e3 e4 e5 hv
      clear hx
      simp [OV.cells] at e1 e2 e3 e4 e5
      have hxo := (hrd k x hv).2 (Nat.le_refl _)
      have HX := Lib.hid hv
      have HL := Lib.hid hlen
      have HM := Lib.hid hmap
      clear hv hlen hmap
      have hc := hblk.cell
      have hf := hblk.frozen
      go_wp2_with fail
      refine (copied67 _ _ _ _ _ _ _ x.o.rep.ps _ (hxo.below hbel)).mono ?_
      rintro e w1 ⟨a', n', c', rfl, hp, hb⟩
      have hblk1 := hblk.below hb hblk.lt
      have hp1 : PS w1 (w.heap.size + 3) a' n' c' x.o.rep.ps := hp.mono (by omega)
      have hbel1 := hbel.trans (hb.mono (by omega))
      have hsz1 : w.heap.size + 2 < w1.heap.size := by have := hb.size; omega
      clear hc hf
      have hc := hblk1.cell
      have hf := hblk1.frozen
      have hrd1 : ∀ (i : Nat) (v : OV), vs'[i]? = some v → (i < k → OV.ok w1 (w.heap.size + 3) v) ∧ (k ≤ i → OV.ok w 0 v) := fun j v hj => ⟨fun h => ((hrd j v hj).1 h).below hb, (hrd j v hj).2⟩
      have hbr1 := hbr.below hb hsz
      clear hblk hp hb hbel hsz hrd hbr
      go_wp2
      go_roundw
      case rel =>
        refine ⟨k + 1, by omega, by go_num, vs'.set k ⟨x.o, a', n', c'⟩, ?_, ?_, ?_, ?_, ?_, ⟨cs, hcl', ?_⟩, ?_⟩
        · have := ovCells_set vs' k 1 [.int .i64 x.o.rep.why, .bool x.o.rep.found, .string x.o.rep.val, .int .i64 x.o.rep.ver, .slice a' n' c'] ⟨x.o, a', n', c'⟩ x HX.out (by simp) rfl
          simp only [setMany] at this
          rw [← this]
          exact ((((hblk1.set _ _).set _ _).set _ _).set _ _).set _ _
        · simp [HL.out]
        · rw [List.map_set, HM.out]
          have : (note (List.map OV.o vs) (↑i + 1) seq r)[k]? = some x.o := by rw [← HM.out]; simp [HX.out]
          exact set_same this
        · exact ((((hbel1.setCell (by simp) _).setCell (by simp) _).setCell (by simp) _).setCell (by simp) _).setCell (by simp) _
        · simpa using hsz1
        · exact ((((hbr1.other (by simp) _).other (by simp) _).other (by simp) _).other (by simp) _).other (by simp) _
        · intro j v hj
          by_cases hjk : j = k
          · subst hjk
            rw [List.getElem?_set_self hkl] at hj
            obtain rfl := Option.some.inj hj
            exact ⟨fun _ => ((((hp1.setCell (by simp) _).setCell (by simp) _).setCell (by simp) _).setCell (by simp) _).setCell (by simp) _, fun h => by omega⟩
          · rw [List.getElem?_set_ne (fun h => hjk h.symm)] at hj
            refine ⟨fun h => ?_, fun h => (hrd1 j v hj).2 (by omega)⟩
            have := (hrd1 j v hj).1 (by omega)
            exact ((((PS.setCell this (by simp) _).setCell (by simp) _).setCell (by simp) _).setCell (by simp) _).setCell (by simp) _
      case measure => simp [intOf]; omega
    · have hk8 : k = 8 := by omega
      subst hk8
      have hsz48 := Lib.hid (ovCells_48 hlen)
      have hold : Hid (cs.toArray.size = (ovCells vs').toArray.size) := by show _ = _; rw [List.size_toArray, List.size_toArray, hcl', ovCells_len, hlen]
      have HL := Lib.hid hlen
      have HM := Lib.hid hmap
      clear hlen hmap hcl'
      go_wp2_with (first | (refine wpList_load_row rfl 29 _ rfl w.heap.size rfl 29 (ovCells vs').toArray (0, 0) _ hblk Try.underlying29 rfl hsz48.out ?_) | (refine wpList_store_row rfl 29 _ _ rfl (w.heap.size + 2) (ovCells vs').toArray rfl rfl 29 cs.toArray hbr hsz48.out hold.out (ovCells_all _) ?_))
      refine bodyPost_ret (results_cell_row rfl _ _ (w.heap.size + 2) 29 (ovCells vs').toArray (0, 0) _ rfl (hbr.setRow _) Try.underlying29 rfl hsz48.out) rfl ⟨vs', rfl, HL.out, ?_, HM.out, below_setRow hbel (by omega) _⟩
      intro v hv
      obtain ⟨j, hj⟩ := List.getElem?_of_mem hv
      have hj8 : j < 8 := by have := (List.getElem?_eq_some_iff.1 hj).1; have := HL.out; omega
      exact (PS.setRow ((hrd j v hj).1 hj8) (by omega) _).mono (by omega)
set_option maxHeartbeats 1000000 in
theorem note14_no (vs : List OV) (client seq : Int) (r : Rep) (a : Option Addr) (n c : Nat) (w : World) (hvs : vs.length = 8) (hok : ∀ v ∈ vs, v.ok w 0) (hcl : client < 1 ∨ 8 < client) :
    Calls Try.prog 14 #[.agg (ovCells vs).toArray, .int .i64 client, .int .i64 seq, .agg #[.int .i64 r.why, .bool r.found, .string r.val, .int .i64 r.ver, .slice a n c]] w
      (RetOwners w.heap.size (note (vs.map OV.o) client seq r) w) := by
  obtain ⟨OS, hOS⟩ : ∃ OS, OS = note (vs.map OV.o) client seq r := ⟨_, rfl⟩
  rw [← hOS]
  have hos : vs.map OV.o = OS := by rw [hOS, note, if_neg (by omega)]
  clear hOS
  have HOS := Lib.hid hos
  clear hos
  go_enter Try.func14, Try.ntmps14
  go_wp2_with (go_at_call 66; refine (known66_no _ _ hcl).mono ?_; rintro e w' ⟨rfl, rfl⟩)
  go_loopw [18] (fun t wr => ∃ k : Nat, k ≤ 8 ∧ t = .int .i64 k ∧ NoteR w OS w.heap.size k wr) (fun t _ => 8 - (intOf t).toNat)
  case atStart =>
    refine ⟨0, by omega, rfl, vs, ?_, hvs, HOS.out, ?_, by simp, ⟨_, ?_, Blk.new' _ _ _ _ (by simp)⟩, ?_⟩
    · exact ((Blk.new w _ _).alloc _).alloc _
    · exact (((Below.refl _ _).alloc (Nat.le_refl _) _).alloc (by simp) _).alloc (by simp; omega) _
    · rfl
    · intro j v hj
      exact ⟨fun h => absurd h (Nat.not_lt_zero _), fun _ => hok v (List.mem_of_getElem? hj)⟩
  case round =>
    obtain ⟨k, hk, rfl, vs', hblk, hlen, hmap, hbel, hsz, ⟨cs, hcl', hbr⟩, hrd⟩ := hrel
    clear hok
    by_cases hlt : k < 8
    · have hkl : k < vs'.length := by omega
      have e1 := ovCells_get vs' k 1 (by omega) hkl
      have e2 := ovCells_get vs' k 2 (by omega) hkl
      have e3 := ovCells_get vs' k 3 (by omega) hkl
      have e4 := ovCells_get vs' k 4 (by omega) hkl
      have e5 := ovCells_get vs' k 5 (by omega) hkl
      have hv := List.getElem?_eq_getElem hkl
      obtain ⟨x, hx⟩ : ∃ x, x = vs'[k] := ⟨_, rfl⟩
      rw [← hx] at e1 e2 e3 e4 e5 hv
      clear hx
      simp [OV.cells] at e1 e2 e3 e4 e5
      have hxo := (hrd k x hv).2 (Nat.le_refl _)
      have HX := Lib.hid hv
      have HL := Lib.hid hlen
      have HM := Lib.hid hmap
      clear hv hlen hmap
      have hc := hblk.cell
      have hf := hblk.frozen
      go_wp2_with fail
      refine (copied67 _ _ _ _ _ _ _ x.o.rep.ps _ (hxo.below hbel)).mono ?_
      rintro e w1 ⟨a', n', c', rfl, hp, hb⟩
      have hblk1 := hblk.below hb hblk.lt
      have hp1 : PS w1 (w.heap.size + 3) a' n' c' x.o.rep.ps := hp.mono (by omega)
      have hbel1 := hbel.trans (hb.mono (by omega))
      have hsz1 : w.heap.size + 2 < w1.heap.size := by have := hb.size; omega
      clear hc hf
      have hc := hblk1.cell
      have hf := hblk1.frozen
      have hrd1 : ∀ (i : Nat) (v : OV), vs'[i]? = some v → (i < k → OV.ok w1 (w.heap.size + 3) v) ∧ (k ≤ i → OV.ok w 0 v) := fun j v hj => ⟨fun h => ((hrd j v hj).1 h).below hb, (hrd j v hj).2⟩
      have hbr1 := hbr.below hb hsz
      clear hblk hp hb hbel hsz hrd hbr
      go_wp2
      go_roundw
      case rel =>
        refine ⟨k + 1, by omega, by go_num, vs'.set k ⟨x.o, a', n', c'⟩, ?_, ?_, ?_, ?_, ?_, ⟨cs, hcl', ?_⟩, ?_⟩
        · have := ovCells_set vs' k 1 [.int .i64 x.o.rep.why, .bool x.o.rep.found, .string x.o.rep.val, .int .i64 x.o.rep.ver, .slice a' n' c'] ⟨x.o, a', n', c'⟩ x HX.out (by simp) rfl
          simp only [setMany] at this
          rw [← this]
          exact ((((hblk1.set _ _).set _ _).set _ _).set _ _).set _ _
        · simp [HL.out]
        · rw [List.map_set, HM.out]
          have : OS[k]? = some x.o := by rw [← HM.out]; simp [HX.out]
          exact set_same this
        · exact ((((hbel1.setCell (by simp) _).setCell (by simp) _).setCell (by simp) _).setCell (by simp) _).setCell (by simp) _
        · simpa using hsz1
        · exact ((((hbr1.other (by simp) _).other (by simp) _).other (by simp) _).other (by simp) _).other (by simp) _
        · intro j v hj
          by_cases hjk : j = k
          · subst hjk
            rw [List.getElem?_set_self hkl] at hj
            obtain rfl := Option.some.inj hj
            exact ⟨fun _ => ((((hp1.setCell (by simp) _).setCell (by simp) _).setCell (by simp) _).setCell (by simp) _).setCell (by simp) _, fun h => by omega⟩
          · rw [List.getElem?_set_ne (fun h => hjk h.symm)] at hj
            refine ⟨fun h => ?_, fun h => (hrd1 j v hj).2 (by omega)⟩
            have := (hrd1 j v hj).1 (by omega)
            exact ((((PS.setCell this (by simp) _).setCell (by simp) _).setCell (by simp) _).setCell (by simp) _).setCell (by simp) _
      case measure => simp [intOf]; omega
    · have hk8 : k = 8 := by omega
      subst hk8
      have hsz48 := Lib.hid (ovCells_48 hlen)
      have hold : Hid (cs.toArray.size = (ovCells vs').toArray.size) := by show _ = _; rw [List.size_toArray, List.size_toArray, hcl', ovCells_len, hlen]
      have HL := Lib.hid hlen
      have HM := Lib.hid hmap
      clear hlen hmap hcl'
      go_wp2_with (first | (refine wpList_load_row rfl 29 _ rfl w.heap.size rfl 29 (ovCells vs').toArray (0, 0) _ hblk Try.underlying29 rfl hsz48.out ?_) | (refine wpList_store_row rfl 29 _ _ rfl (w.heap.size + 2) (ovCells vs').toArray rfl rfl 29 cs.toArray hbr hsz48.out hold.out (ovCells_all _) ?_))
      refine bodyPost_ret (results_cell_row rfl _ _ (w.heap.size + 2) 29 (ovCells vs').toArray (0, 0) _ rfl (hbr.setRow _) Try.underlying29 rfl hsz48.out) rfl ⟨vs', rfl, HL.out, ?_, HM.out, below_setRow hbel (by omega) _⟩
      intro v hv
      obtain ⟨j, hj⟩ := List.getElem?_of_mem hv
      have hj8 : j < 8 := by have := (List.getElem?_eq_some_iff.1 hj).1; have := HL.out; omega
      exact (PS.setRow ((hrd j v hj).1 hj8) (by omega) _).mono (by omega)
end Go.Proofs.Ythdcdckmmfdfgaa
