/- dedup.Look, concordref11.Replies: what each returns, and that nothing that was there turns. -/
import Derived.Test.YthdcdckmmfdfgaaNote
import Derived.Deep.QuietTactic
import Derived.BigQuiet
set_option linter.unusedVariables false
set_option linter.unusedSimpArgs false
namespace Go.Proofs.Ythdcdckmmfdfgaa
open Go.RowKit

def RetLook (B : Nat) (k : Int) (r : Rep) (w : World) (e : Ending) (w' : World) : Prop :=
  ∃ a n c, e = .returned (.tuple #[.int .i64 k, .agg #[.int .i64 r.why, .bool r.found, .string r.val, .int .i64 r.ver, .slice a n c]]) ∧ PS w' B a n c r.ps ∧ Below B w w'

set_option maxHeartbeats 1000000 in
theorem look16_no (vs : List OV) (client seq : Int) (w : World) (hcl : client < 1 ∨ 8 < client) :
    Calls Try.prog 16 #[.agg (ovCells vs).toArray, .int .i64 client, .int .i64 seq] w (RetLook w.heap.size 0 Rep.zero w) := by
  go_enter Try.func16, Try.ntmps16
  go_wp2_with (go_at_call 66; refine (known66_no _ _ hcl).mono ?_; rintro e w' ⟨rfl, rfl⟩)
  refine bodyPost_ret (v := .tuple #[.int .i64 0, .agg #[.int .i64 0, .bool false, .string ⟨#[]⟩, .int .i64 0, .slice none 0 0]]) (by simp [results, Try.results16, go_sem]) rfl ⟨none, 0, 0, rfl, PS.nil _ _, (by repeat (first | (with_reducible exact Below.refl _ _) | (with_reducible assumption) | (with_reducible refine Below.setCell ?_ (by first | omega | (simp; done) | (simp; omega)) _) | (with_reducible refine Below.alloc ?_ (by first | omega | (simp; done) | (simp; omega)) _) | (with_reducible refine below_setRow ?_ (by first | omega | (simp; done) | (simp; omega)) _) | (with_reducible refine Below.drew ?_)))⟩

set_option maxHeartbeats 1000000 in
theorem look16 (vs : List OV) (client seq : Int) (i : Nat) (o : OV) (w : World) (hvs : vs.length = 8) (hok : o.ok w 0) (hi : vs[i]? = some o) (hcl : client = i + 1) (h8 : i < 8) :
    Calls Try.prog 16 #[.agg (ovCells vs).toArray, .int .i64 client, .int .i64 seq] w
      (RetLook w.heap.size (if o.o.seq < seq then 1 else if seq = o.o.seq then 2 else 3) (if o.o.seq < seq then Rep.zero else if seq = o.o.seq then o.o.rep else Rep.zero) w) := by
  subst hcl
  have hil : i < vs.length := by omega
  have hv : vs[i] = o := Option.some.inj ((List.getElem?_eq_getElem hil).symm.trans hi)
  have e0 := ovCells_get vs i 0 (by omega) hil
  have e1 := ovCells_get vs i 1 (by omega) hil
  have e2 := ovCells_get vs i 2 (by omega) hil
  have e3 := ovCells_get vs i 3 (by omega) hil
  have e4 := ovCells_get vs i 4 (by omega) hil
  have e5 := ovCells_get vs i 5 (by omega) hil
  rw [hv] at e0 e1 e2 e3 e4 e5
  simp [OV.cells] at e0 e1 e2 e3 e4 e5
  clear hv hi hvs
  have hok' : PS w 0 o.a o.n o.c o.o.rep.ps := hok
  by_cases h1 : o.o.seq < seq
  · rw [if_pos h1, if_pos h1]
    go_enter Try.func16, Try.ntmps16
    go_wp2_with (go_at_call 66; refine (known66 _ _ ⟨by omega, by omega⟩).mono ?_; rintro e w' ⟨rfl, rfl⟩)
    refine bodyPost_ret (v := .tuple #[.int .i64 1, .agg #[.int .i64 0, .bool false, .string ⟨#[]⟩, .int .i64 0, .slice none 0 0]]) (by simp [results, Try.results16, go_sem]) rfl ⟨none, 0, 0, rfl, PS.nil _ _, (by repeat (first | (with_reducible exact Below.refl _ _) | (with_reducible assumption) | (with_reducible refine Below.setCell ?_ (by first | omega | (simp; done) | (simp; omega)) _) | (with_reducible refine Below.alloc ?_ (by first | omega | (simp; done) | (simp; omega)) _) | (with_reducible refine below_setRow ?_ (by first | omega | (simp; done) | (simp; omega)) _) | (with_reducible refine Below.drew ?_)))⟩
  · rw [if_neg h1, if_neg h1]
    by_cases h2 : seq = o.o.seq
    · rw [if_pos h2, if_pos h2]
      have h3 : (seq == o.o.seq) = true := by simp [h2]
      have H2 := Lib.hid h2
      clear h2
      go_enter Try.func16, Try.ntmps16
      go_wp2_with (go_at_call 66; refine (known66 _ _ ⟨by omega, by omega⟩).mono ?_; rintro e w' ⟨rfl, rfl⟩)
      refine (copied67 _ _ _ _ _ _ _ o.o.rep.ps _ (((hok'.alloc _).alloc _).alloc _)).mono ?_
      rintro e w1 ⟨a', n', c', rfl, hp, hb⟩
      have hp' : PS w1 (w.heap.size + 3) a' n' c' o.o.rep.ps := hp.mono (by simp)
      have hb0 : Below (w.heap.size + 3) _ w1 := hb.mono (by simp)
      have hb1 : Below w.heap.size w w1 := by refine Below.trans ?_ (hb0.mono (by omega)); exact (by repeat (first | (with_reducible exact Below.refl _ _) | (with_reducible assumption) | (with_reducible refine Below.setCell ?_ (by first | omega | (simp; done) | (simp; omega)) _) | (with_reducible refine Below.alloc ?_ (by first | omega | (simp; done) | (simp; omega)) _) | (with_reducible refine below_setRow ?_ (by first | omega | (simp; done) | (simp; omega)) _) | (with_reducible refine Below.drew ?_)))
      obtain ⟨hc, hf⟩ := bcell hb0
      clear hb hp
      go_wp2
      refine bodyPost_ret (v := .tuple #[.int .i64 2, .agg #[.int .i64 o.o.rep.why, .bool o.o.rep.found, .string o.o.rep.val, .int .i64 o.o.rep.ver, .slice a' n' c']]) (by simp [results, Try.results16, go_sem, hc]) rfl ⟨a', n', c', rfl, ?_, (by repeat (first | (with_reducible exact Below.refl _ _) | (with_reducible assumption) | (with_reducible refine Below.setCell ?_ (by first | omega | (simp; done) | (simp; omega)) _) | (with_reducible refine Below.alloc ?_ (by first | omega | (simp; done) | (simp; omega)) _) | (with_reducible refine below_setRow ?_ (by first | omega | (simp; done) | (simp; omega)) _) | (with_reducible refine Below.drew ?_)))⟩
      exact PS.mono (B := w.heap.size + 3) (by repeat (first | (with_reducible exact hp') | (with_reducible refine PS.setCell ?_ (by first | omega | (simp; done) | (simp; omega)) _) | (with_reducible refine PS.alloc ?_ _) | (with_reducible refine PS.setRow ?_ (by first | omega | (simp; done) | (simp; omega)) _) | (with_reducible refine PS.drew ?_))) (by omega)
    · rw [if_neg h2, if_neg h2]
      have h3 : (seq == o.o.seq) = false := by simp [h2]
      clear h2
      go_enter Try.func16, Try.ntmps16
      go_wp2_with (go_at_call 66; refine (known66 _ _ ⟨by omega, by omega⟩).mono ?_; rintro e w' ⟨rfl, rfl⟩)
      refine bodyPost_ret (v := .tuple #[.int .i64 3, .agg #[.int .i64 0, .bool false, .string ⟨#[]⟩, .int .i64 0, .slice none 0 0]]) (by simp [results, Try.results16, go_sem]) rfl ⟨none, 0, 0, rfl, PS.nil _ _, (by repeat (first | (with_reducible exact Below.refl _ _) | (with_reducible assumption) | (with_reducible refine Below.setCell ?_ (by first | omega | (simp; done) | (simp; omega)) _) | (with_reducible refine Below.alloc ?_ (by first | omega | (simp; done) | (simp; omega)) _) | (with_reducible refine below_setRow ?_ (by first | omega | (simp; done) | (simp; omega)) _) | (with_reducible refine Below.drew ?_)))⟩
end Go.Proofs.Ythdcdckmmfdfgaa
