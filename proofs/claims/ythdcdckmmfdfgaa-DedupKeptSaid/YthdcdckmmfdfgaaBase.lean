/- What the walks share: slices that read as rows of cells, blocks known whole, fixed-size elements in a row. No condition. -/
import Derived.Test.YthdcdckmmfdfgaaProg
import Derived.WalkKit
import Derived.WalkLawsBesides
import Derived.WalkSpells
import Derived.Lib.Hide
import Derived.WideShapes
namespace Go.Proofs.Ythdcdckmmfdfgaa
open Go.RowKit

/-- a slice (address, length, capacity) that reads as the cells cs in w, none of them below block B; where B is above nought they may be written -/
def SlA (w : World) (B : Nat) (a : Option Addr) (n c : Nat) (cs : List Value) : Prop :=
  n ≤ c ∧ (cs ≠ [] → ∃ b o, a = some ⟨b, o, none⟩ ∧ B ≤ b ∧ ∀ j, j < cs.length → w.cell? ⟨b, o + j, none⟩ = cs[j]? ∧ (0 < B → w.frozen? ⟨b, o + j, none⟩ = false))

theorem SlA.nil (w : World) (B : Nat) : SlA w B none 0 0 [] := ⟨Nat.le_refl _, fun h => (h rfl).elim⟩

theorem SlA.mono {w : World} {B B' : Nat} {a : Option Addr} {n c : Nat} {cs : List Value} (h : SlA w B a n c cs) (hB : B' ≤ B) : SlA w B' a n c cs :=
  ⟨h.1, fun hn => let ⟨b, o, h1, h2, h3⟩ := h.2 hn; ⟨b, o, h1, Nat.le_trans hB h2, fun j hj => ⟨(h3 j hj).1, fun hp => (h3 j hj).2 (Nat.lt_of_lt_of_le hp hB)⟩⟩⟩

theorem lt_of_cell {w : World} {b o : Nat} {v : Value} (h : w.cell? ⟨b, o, none⟩ = some v) : b < w.heap.size := World.block_lt_of_cell? w _ h

theorem SlA.same {w w' : World} {B : Nat} {a : Option Addr} {n c : Nat} {cs : List Value} (h : SlA w B a n c cs) (hs : ∀ b o, a = some ⟨b, o, none⟩ → B ≤ b → b < w.heap.size → w'.heap[b]? = w.heap[b]?) : SlA w' B a n c cs :=
  ⟨h.1, fun hn => by
    obtain ⟨b, o, h1, h2, h3⟩ := h.2 hn
    have h0 : 0 < cs.length := List.length_pos_iff.2 hn
    have hlt : b < w.heap.size := lt_of_cell (((h3 0 h0).1).trans (List.getElem?_eq_getElem h0))
    have hh := hs b o h1 h2 hlt
    refine ⟨b, o, h1, h2, fun j hj => ?_⟩
    rw [World.cell?_of_block (a := ⟨b, o + j, none⟩) hh, World.frozen?_of_block (a := ⟨b, o + j, none⟩) hh]
    exact h3 j hj⟩

/-- what is read stays where only blocks from the heap's end on have turned -/
theorem SlA.below {w w' : World} {B : Nat} {a : Option Addr} {n c : Nat} {cs : List Value} (h : SlA w B a n c cs) (hb : Below w.heap.size w w') : SlA w' B a n c cs :=
  h.same fun b _ _ _ hlt => hb.block b hlt

/-- what lies below block X stays where only blocks from X on have turned -/
theorem SlA.under {w0 w w' : World} {B : Nat} {a : Option Addr} {n c : Nat} {cs : List Value} (h : SlA w0 B a n c cs) (h0 : Below w0.heap.size w0 w) (hb : Below w0.heap.size w w') : SlA w' B a n c cs :=
  h.below (h0.trans hb)

theorem setCell_block (w : World) (p : Addr) (u : Value) (b : Nat) (h : b ≠ p.block) : (w.setCell p u).heap[b]? = w.heap[b]? := Below.heap_setCell w p u b h

/-- what is read stays where a cell of a block below B turns -/
theorem SlA.setCell {w : World} {B : Nat} {a : Option Addr} {n c : Nat} {cs : List Value} (h : SlA w B a n c cs) {p : Addr} (hp : p.block < B) (u : Value) : SlA (w.setCell p u) B a n c cs :=
  h.same fun b _ _ hB _ => setCell_block w p u b (by omega)

theorem SlA.alloc {w : World} {B : Nat} {a : Option Addr} {n c : Nat} {cs : List Value} (h : SlA w B a n c cs) (o : Obj) : SlA (w.alloc o) B a n c cs :=
  h.below ((Below.refl _ _).alloc (Nat.le_refl _) _)

theorem SlA.drew {w : World} {B : Nat} {a : Option Addr} {n c : Nat} {cs : List Value} (h : SlA w B a n c cs) : SlA w.drew B a n c cs := h

theorem SlA.setRow {w : World} {B : Nat} {a : Option Addr} {n c : Nat} {cs : List Value} (h : SlA w B a n c cs) {g : Nat} (hg : g < B) (xs : Array Value) : SlA (w.setRow g xs) B a n c cs :=
  h.same fun b _ _ hB _ => Go.setRow_other w g b xs (by omega)

/-- what is read stays where one block below B turns -/
theorem SlA.grown {w w' : World} {B g : Nat} {a : Option Addr} {n c : Nat} {cs : List Value} (h : SlA w B a n c cs) (hg : w.grownBy w' (some g)) (hB : g < B) : SlA w' B a n c cs :=
  h.same fun b _ _ hb hlt => hg.block b hlt (fun e => by cases e; omega)

/-- the slice's place, where it has a cell -/
theorem SlA.at {w : World} {B : Nat} {a : Option Addr} {n c : Nat} {cs : List Value} (h : SlA w B a n c cs) (hn : cs ≠ []) :
    ∃ b o, a = some ⟨b, o, none⟩ ∧ B ≤ b ∧ b < w.heap.size ∧ (∀ j, j < cs.length → w.cell? ⟨b, o + j, none⟩ = cs[j]?) ∧ (0 < B → ∀ j, j < cs.length → w.frozen? ⟨b, o + j, none⟩ = false) := by
  obtain ⟨b, o, h1, h2, h3⟩ := h.2 hn
  have h0 : 0 < cs.length := List.length_pos_iff.2 hn
  exact ⟨b, o, h1, h2, lt_of_cell (((h3 0 h0).1).trans (List.getElem?_eq_getElem h0)), fun j hj => (h3 j hj).1, fun hB j hj => (h3 j hj).2 hB⟩

/-- an owned row reads as its cells -/
theorem SlA.of_owns {w : World} {B : Nat} {e : TypeId} {s : Nat} {v : Value} {n : Nat} {xs : List Value} (h : w.ownsRow B e s v n xs) : ∃ a c, v = .slice a n c ∧ SlA w B a n c xs := by
  obtain ⟨h1, h2⟩ := h
  rcases h2 with ⟨rfl, rfl⟩ | ⟨g, cap, cur, rfl, hg, hh, hc, hm, hs, ht⟩
  · have : xs = [] := List.eq_nil_of_length_eq_zero (by simpa using h1)
    subst this
    exact ⟨none, 0, rfl, SlA.nil _ _⟩
  · refine ⟨_, _, rfl, hc, fun _ => ⟨g, 0, rfl, hg, fun j hj => ⟨?_, fun _ => ?_⟩⟩⟩
    · rw [cell_of_row w g (0 + j) cur e (0, 0) hh, Nat.zero_add, ← ht, List.getElem?_take]
      rw [h1] at hj
      rw [if_pos hj]; simp
    · simp [World.frozen?, hh]

/-- a block known whole, none of it frozen -/
def Blk (w : World) (b : Nat) (cs : List Value) (t : TypeId) : Prop := w.heap[b]? = some (.cells cs.toArray t (0, 0))

theorem Blk.lt {w : World} {b : Nat} {cs : List Value} {t : TypeId} (h : Blk w b cs t) : b < w.heap.size := (Array.getElem?_eq_some_iff.1 h).1
theorem Blk.cell {w : World} {b : Nat} {cs : List Value} {t : TypeId} (h : Blk w b cs t) (o : Nat) : w.cell? ⟨b, o, none⟩ = cs[o]? := by
  rw [cell_of_row w b o _ _ _ h]; simp
theorem Blk.frozen {w : World} {b : Nat} {cs : List Value} {t : TypeId} (h : Blk w b cs t) (o : Nat) : w.frozen? ⟨b, o, none⟩ = false := by
  unfold Blk at h; simp [World.frozen?, h]
theorem Blk.new (w : World) (cs : List Value) (t : TypeId) : Blk (w.alloc (.cells cs.toArray t)) w.heap.size cs t := heap_alloc_new w _
theorem Blk.new' (w : World) (cs : List Value) (t : TypeId) (b : Nat) (hb : b = w.heap.size) : Blk (w.alloc (.cells cs.toArray t)) b cs t := by subst hb; exact heap_alloc_new w _
theorem Blk.alloc {w : World} {b : Nat} {cs : List Value} {t : TypeId} (h : Blk w b cs t) (o : Obj) : Blk (w.alloc o) b cs t := by
  have := h.lt; unfold Blk; rw [Below.heap_alloc _ _ _ this]; exact h
theorem Blk.below {w w' : World} {B b : Nat} {cs : List Value} {t : TypeId} (h : Blk w b cs t) (hb : Below B w w') (hB : b < B) : Blk w' b cs t :=
  (hb.block b hB).trans h
theorem Blk.other {w : World} {b : Nat} {cs : List Value} {t : TypeId} (h : Blk w b cs t) {p : Addr} (hp : b ≠ p.block) (u : Value) : Blk (w.setCell p u) b cs t := by
  unfold Blk; rw [Below.heap_setCell _ _ _ _ hp]; exact h
theorem Blk.set {w : World} {b : Nat} {cs : List Value} {t : TypeId} (h : Blk w b cs t) (o : Nat) (u : Value) : Blk (w.setCell ⟨b, o, none⟩ u) b (cs.set o u) t := by
  unfold Blk at *
  simp [World.setCell, Array.getElem?_modify, h]
theorem Blk.drew {w : World} {b : Nat} {cs : List Value} {t : TypeId} (h : Blk w b cs t) : Blk w.drew b cs t := h

/-- the same bytes, whoever says it -/
theorem bcell {W w1 : World} {B : Nat} (hb : Below B W w1) : (∀ b o, b < B → w1.cell? ⟨b, o, none⟩ = W.cell? ⟨b, o, none⟩) ∧ (∀ b o, b < B → w1.frozen? ⟨b, o, none⟩ = W.frozen? ⟨b, o, none⟩) :=
  ⟨fun b o h => hb.cell (p := ⟨b, o, none⟩) h, fun b o h => hb.frozen (p := ⟨b, o, none⟩) h⟩

/-- elements of a fixed number of cells, one behind the other -/
theorem flat_get {α : Type} (f : α → List Value) (s : Nat) (hf : ∀ x, (f x).length = s) (l : List α) (i j : Nat) (hj : j < s) :
    (l.flatMap f)[i * s + j]? = (l[i]?).bind fun x => (f x)[j]? := by
  induction l generalizing i with
  | nil => simp
  | cons x l ih =>
    rw [List.flatMap_cons]
    cases i with
    | zero => rw [Nat.zero_mul, Nat.zero_add, List.getElem?_append_left (by rw [hf]; exact hj)]; simp
    | succ i =>
      rw [List.getElem?_append_right (by rw [hf, Nat.add_mul]; omega), hf, show (i + 1) * s + j - s = i * s + j by rw [Nat.add_mul]; omega, ih]
      simp
theorem flat_len {α : Type} (f : α → List Value) (s : Nat) (hf : ∀ x, (f x).length = s) (l : List α) : (l.flatMap f).length = l.length * s := by
  induction l with
  | nil => simp
  | cons x l ih => rw [List.flatMap_cons, List.length_append, hf, ih, List.length_cons, Nat.add_mul]; omega

theorem ret_int {k : IntKind} {a b : Int} (h : a = b) : Ending.returned (.int k a) = .returned (.int k b) := by rw [h]
theorem ret_bool {a b : Bool} (h : a = b) : Ending.returned (.bool a) = .returned (.bool b) := by rw [h]
theorem ret_val {a b : Value} (h : a = b) : Ending.returned a = .returned b := by rw [h]

/-- cells written one behind the other -/
def setMany (cs : List Value) (o : Nat) : List Value → List Value
  | [] => cs
  | x :: xs => setMany (cs.set o x) (o + 1) xs
theorem setMany_len (xs : List Value) : ∀ (cs : List Value) (o : Nat), (setMany cs o xs).length = cs.length := by
  induction xs with
  | nil => intro cs o; rfl
  | cons x xs ih => intro cs o; rw [setMany, ih, List.length_set]
theorem setMany_get (xs : List Value) : ∀ (cs : List Value) (o j : Nat), o + xs.length ≤ cs.length →
    (setMany cs o xs)[j]? = if o ≤ j ∧ j < o + xs.length then xs[j - o]? else cs[j]? := by
  induction xs with
  | nil => intro cs o j _; simp [setMany]; intro h1 h2; omega
  | cons x xs ih =>
    intro cs o j h
    rw [List.length_cons] at h
    rw [setMany, ih _ _ _ (by rw [List.length_set]; omega)]
    by_cases h1 : o + 1 ≤ j ∧ j < o + 1 + xs.length
    · rw [if_pos h1, if_pos (by rw [List.length_cons]; omega), show j - o = (j - (o + 1)) + 1 by omega]; simp
    · rw [if_neg h1]
      by_cases h2 : j = o
      · subst h2
        have hl : j < cs.length := by omega
        rw [if_pos (by rw [List.length_cons]; omega)]; simp [hl]
      · rw [if_neg (by rw [List.length_cons]; omega), List.getElem?_set_ne (by omega)]

/-- one element of fixed-size elements written anew, in part or whole -/
theorem flat_set {α : Type} (f : α → List Value) (s : Nat) (hf : ∀ x, (f x).length = s) (l : List α) (i j : Nat) (ys : List Value) (x y : α) (hi : l[i]? = some y) (hj : j + ys.length ≤ s) (hx : f x = setMany (f y) j ys) :
    setMany (l.flatMap f) (i * s + j) ys = (l.set i x).flatMap f := by
  have hlt : i < l.length := (List.getElem?_eq_some_iff.1 hi).1
  have hle : i * s + s ≤ l.length * s := by have := Nat.mul_le_mul_right s (Nat.succ_le_of_lt hlt); rw [Nat.succ_mul] at this; exact this
  apply List.ext_getElem?
  intro k
  have hlen := flat_len f s hf l
  rw [setMany_get _ _ _ _ (by rw [hlen]; omega)]
  by_cases hs : s = 0
  · subst hs
    have : ys = [] := List.eq_nil_of_length_eq_zero (by omega)
    subst this
    have e1 : (l.flatMap f) = [] := List.eq_nil_of_length_eq_zero (by rw [hlen, Nat.mul_zero])
    have e2 : ((l.set i x).flatMap f) = [] := List.eq_nil_of_length_eq_zero (by rw [flat_len f 0 hf, Nat.mul_zero])
    rw [e1, e2]; simp
  · have hpos : 0 < s := by omega
    have hk : k = (k / s) * s + k % s := by rw [Nat.mul_comm]; exact (Nat.div_add_mod k s).symm
    have hm : k % s < s := Nat.mod_lt _ hpos
    have hg := flat_get f s hf l (k / s) (k % s) hm
    have hg2 := flat_get f s hf (l.set i x) (k / s) (k % s) hm
    rw [← hk] at hg hg2
    rw [hg2]
    by_cases he : k / s = i
    · have e3 : (l.set i x)[k / s]? = some x := by rw [he]; simp [hlt]
      rw [e3, Option.bind_some, hx, setMany_get _ _ _ _ (by rw [hf]; exact hj)]
      rw [he] at hk
      by_cases h1 : j ≤ k % s ∧ k % s < j + ys.length
      · rw [if_pos h1, if_pos (by omega), show k - (i * s + j) = k % s - j by omega]
      · rw [if_neg h1, if_neg (by omega), hg, he, hi, Option.bind_some]
    · have e3 : (l.set i x)[k / s]? = l[k / s]? := List.getElem?_set_ne (fun h => he h.symm)
      rw [e3, ← hg, if_neg]
      intro h1
      apply he
      have h2 : i * s ≤ k := by omega
      have h3 : k < i * s + s := by omega
      exact Nat.div_eq_of_lt_le h2 (by rw [Nat.succ_mul]; exact h3)

theorem set_same {α : Type} {l : List α} {k : Nat} {x : α} (h : l[k]? = some x) : l.set k x = l := by
  apply List.ext_getElem?
  intro j
  by_cases hj : j = k
  · subst hj; rw [List.getElem?_set_self (List.getElem?_eq_some_iff.1 h).1, h]
  · rw [List.getElem?_set_ne (fun e => hj e.symm)]

theorem Blk.setRow {w : World} {b : Nat} {cs : List Value} {t : TypeId} (h : Blk w b cs t) (xs : List Value) : Blk (w.setRow b xs.toArray) b xs t := setRow_heap w b _ _ t _ h
theorem Blk.setRow_other {w : World} {b g : Nat} {cs : List Value} {t : TypeId} (h : Blk w b cs t) (hb : b ≠ g) (xs : Array Value) : Blk (w.setRow g xs) b cs t := by
  unfold Blk; rw [Go.setRow_other w g b xs hb]; exact h
theorem below_setRow {B : Nat} {a w : World} (h : Below B a w) {g : Nat} (hg : B ≤ g) (xs : Array Value) : Below B a (w.setRow g xs) :=
  h.trans ⟨rfl, rfl, rfl, by simp, fun k hk => Go.setRow_other w g k xs (by omega)⟩

theorem bytes_ext {a b : ByteArray} (h : a.toList = b.toList) : a = b := WideShapes.bytes_inj (by rw [← ByteArray.toList_eq, ← ByteArray.toList_eq, h])
theorem str_ne {a b : ByteArray} (h : a ≠ b) : (a.toList == b.toList) = false := by
  rw [beq_eq_false_iff_ne]; exact fun e => h (bytes_ext e)
theorem str_eq {a b : ByteArray} (h : a = b) : (a.toList == b.toList) = true := by subst h; simp
end Go.Proofs.Ythdcdckmmfdfgaa
