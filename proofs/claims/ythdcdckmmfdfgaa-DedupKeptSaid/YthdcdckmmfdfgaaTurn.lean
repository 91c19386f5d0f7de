/- concordlaw12's closure that turns pairs: it writes into the slice's own block alone. -/
import Derived.Test.YthdcdckmmfdfgaaLook
set_option linter.unusedVariables false
set_option linter.unusedSimpArgs false
namespace Go.Proofs.Ythdcdckmmfdfgaa
open Go.RowKit

/-- cells that are there and may be written -/
def There (w : World) (b o m : Nat) : Prop := ∀ j, j < m → (∃ v, w.cell? ⟨b, o + j, none⟩ = some v) ∧ w.frozen? ⟨b, o + j, none⟩ = false
theorem There.setCell {w : World} {b o m : Nat} (h : There w b o m) (p : Addr) (u : Value) : There (w.setCell p u) b o m := fun j hj => by
  obtain ⟨⟨v, hv⟩, hf⟩ := h j hj
  exact ⟨cell?_setCell_some hv, by rw [World.frozen?_setCell]; exact hf⟩
theorem There.of {w : World} {b o : Nat} {cs : List Value} (h1 : ∀ j, j < cs.length → w.cell? ⟨b, o + j, none⟩ = cs[j]?) (h2 : ∀ j, j < cs.length → w.frozen? ⟨b, o + j, none⟩ = false) : There w b o cs.length :=
  fun j hj => ⟨⟨_, (h1 j hj).trans (List.getElem?_eq_getElem hj)⟩, h2 j hj⟩
theorem grown_setCell {w w' : World} {b : Nat} (h : w.grownBy w' (some b)) (o : Nat) (u : Value) : w.grownBy (w'.setCell ⟨b, o, none⟩ u) (some b) :=
  ⟨h.os, h.tape, h.output, by simpa [World.setCell] using h.size, fun k hk hne => (setCell_block w' ⟨b, o, none⟩ u k (fun e => hne (by rw [e]))).trans (h.block k hk hne)⟩

/-- a slice's own block alone has turned, if anything has -/
def Turned (B : Nat) (a : Option Addr) (n : Nat) (w w' : World) : Prop :=
  w'.heap.size = w.heap.size ∧ (w' = w ∨ ∃ b o, 0 < n ∧ a = some ⟨b, o, none⟩ ∧ B ≤ b ∧ b < w.heap.size ∧ w.grownBy w' (some b))
theorem Turned.below {B : Nat} {a : Option Addr} {n : Nat} {w w' : World} (h : Turned B a n w w') : Below B w w' := by
  rcases h.2 with rfl | ⟨b, o, _, _, hB, _, hg⟩
  · exact Below.refl _ _
  · exact ⟨hg.os, hg.tape, hg.output, hg.size, fun k hk => hg.block k (by omega) (fun e => by cases e; omega)⟩

/-- what lies above a world in which the turned pairs lay already is as it was -/
theorem Turned.keep {B B' : Nat} {a : Option Addr} {n c : Nat} {ps : List Pr} {w w' wo : World} (h : Turned B a n w w') (hp : PS wo B' a n c ps) (k : Nat) (hk : wo.heap.size ≤ k) (hlt : k < w.heap.size) : w'.heap[k]? = w.heap[k]? := by
  rcases h.2 with rfl | ⟨b, o, hn, ha, hB, _, hg⟩
  · rfl
  · obtain ⟨h1, h2, h3⟩ := hp
    have hl := prCells_len ps
    obtain ⟨b', o', e1, e2, e3, _⟩ := h3.at (fun h' => by rw [h'] at hl; simp at hl; omega)
    rw [ha] at e1
    have hbb : b = b' := by injection e1 with e1; injection e1
    exact hg.block k hlt (fun e => by injection e with e; omega)
theorem Blk.turned {B B' b : Nat} {a : Option Addr} {n c : Nat} {ps : List Pr} {w w' wo : World} {cs : List Value} {t : TypeId} (hb : Blk w b cs t) (h : Turned B a n w w') (hp : PS wo B' a n c ps) (hk : wo.heap.size ≤ b) : Blk w' b cs t := by
  unfold Blk; rw [h.keep hp b hk hb.lt]; exact hb
theorem PS.turned {B B' Bm : Nat} {a sa : Option Addr} {n c sn sc : Nat} {ps qs : List Pr} {w w' wo : World} (hq : PS w Bm sa sn sc qs) (h : Turned B a n w w') (hp : PS wo B' a n c ps) (hk : wo.heap.size ≤ Bm) : PS w' Bm sa sn sc qs :=
  ⟨hq.1, hq.2.1, hq.2.2.same fun b o _ h2 h3 => h.keep hp b (Nat.le_trans hk h2) h3⟩

def RetTurned (B : Nat) (a : Option Addr) (n : Nat) (w : World) (e : Ending) (w' : World) : Prop := e = .returned (.tuple #[]) ∧ Turned B a n w w'

set_option maxHeartbeats 1000000 in
theorem turn15 (B : Nat) (a : Option Addr) (n c : Nat) (ps : List Pr) (w : World) (hB : 0 < B) (h : PS w B a n c ps) :
    Calls Try.prog 15 #[.slice a n c] w (RetTurned B a n w) := by
  obtain ⟨hn, hn40, hs⟩ := h
  have hl := prCells_len ps
  obtain ⟨b, o, hbo⟩ : ∃ b o, 0 < n → a = some ⟨b, o, none⟩ ∧ B ≤ b ∧ b < w.heap.size ∧ There w b o (n * 3) := by
    rcases Classical.em (prCells ps = []) with h' | h'
    · refine ⟨0, 0, fun h0 => ?_⟩
      rw [h'] at hl; simp at hl; omega
    · obtain ⟨b, o, h1, h2, h3, h4, h5⟩ := hs.at h'
      exact ⟨b, o, fun _ => ⟨h1, h2, h3, by have := There.of h4 (h5 hB); rwa [hl, ← hn] at this⟩⟩
  clear hs hl hn ps
  go_enter Try.func15, Try.ntmps15
  go_wp2
  go_loopw [2] (fun t wr => ∃ k : Nat, k ≤ n ∧ t = .int .i64 k ∧ wr.heap.size = w.heap.size ∧ (n = 0 → wr = w) ∧ (0 < n → w.grownBy wr (some b) ∧ There wr b o (n * 3))) (fun t _ => n - (intOf t).toNat)
  case atStart => exact ⟨0, by omega, rfl, rfl, fun _ => rfl, fun h => ⟨World.grownBy.refl _ _, (hbo h).2.2.2⟩⟩
  case round =>
    obtain ⟨k, hk, rfl, hsz, h0, hrel⟩ := hrel
    by_cases hlt : k < n
    · obtain ⟨hab, hBb, hbl, _⟩ := hbo (by omega)
      obtain ⟨hg, ht⟩ := hrel (by omega)
      subst hab
      clear hbo h0
      obtain ⟨⟨v0, c0⟩, f0⟩ := ht (k * 3) (by omega)
      obtain ⟨⟨v1, c1⟩, f1⟩ := ht (k * 3 + 1) (by omega)
      obtain ⟨⟨v2, c2⟩, f2⟩ := ht (k * 3 + 2) (by omega)
      rw [← Nat.add_assoc] at c1 c2 f1 f2
      have HT := Lib.hid ht
      have HS := Lib.hid hsz
      clear ht hsz
      go_wp2
      go_roundw
      case rel =>
        refine ⟨k + 1, by omega, by go_num, ?_, fun h => by omega, fun _ => ⟨?_, ?_⟩⟩
        · simpa [World.setCell] using HS.out
        · exact grown_setCell (grown_setCell (grown_setCell hg _ _) _ _) _ _
        · exact ((HT.out.setCell _ _).setCell _ _).setCell _ _
      case measure => simp [intOf]; omega
    · go_wp2
      go_end0
      refine ⟨rfl, hsz, ?_⟩
      by_cases hn0 : n = 0
      · exact .inl (h0 hn0)
      · obtain ⟨hab, hBb, hbl, _⟩ := hbo (by omega)
        exact .inr ⟨b, o, by omega, hab, hBb, hbl, (hrel (by omega)).1⟩
end Go.Proofs.Ythdcdckmmfdfgaa
