/- PROVED: whatever reply and whatever client number come in, concordlaw12.DedupKept returns true, and its arguments read behind the call as they read before. Conditions: none beside the reach that the form itself states. -/
import Derived.Test.YthdcdckmmfdfgaaKept
import Derived.Test.YthdcdckmmfdfgaaRows
import Derived.ProofKit
import Derived.SizedLaws
import Derived.OpenShut
import Derived.Deep.Slices
import Derived.Deep.Fields
import Derived.ChangeSame
import Derived.Carry
set_option linter.unusedVariables false
set_option linter.unusedSimpArgs false
namespace Go.Proofs.Ythdcdckmmfdfgaa
open Go.ChangeShapes Go.WideShapes Go.ChangeAt Go.RowKit Go.Deep

theorem kept_own : ownKnob Try.prog.godebug = none := by kernel_rfl
theorem kept_laidOut : laidOutB Try.prog = true := by kernel_rfl

section
variable {H : Type} {enc : TypeId × Value → H} {P : Program} {w : World} {base : Nat} {spare : Nat → Bool} {held : Bool}
/-- a struct of one-cell fields, part by part -/
theorem struct_parts {t : TypeId} {fs : Array Field} {fuel : Nat} {cs : List Value} {x : DataW H × List MemPlace} (hs : P.underlying t = some (.struct fs)) (hone : oneCellFields P fs = true) (hlen : cs.length = fs.size) (h : DataW.trod enc P w base spare held fuel t cs = some x) :
    ∃ (ys : List (DataW H × List MemPlace)) (n : Nat), ys.length = fs.size ∧ x = (.agg (ys.map (·.1)), ys.flatMap (·.2)) ∧
      ∀ (j : Nat) (f : Field) (c : Value), fs[j]? = some f → cs[j]? = some c → ∃ y, ys[j]? = some y ∧ DataW.trod enc P w base spare held n f.type [c] = some y := by
  obtain ⟨ys, n, _, hx, _, hyl, hf⟩ := DataW.trod_struct hs h
  refine ⟨ys, n, hyl, hx, fun j f c hj hc => ?_⟩
  obtain ⟨ho, hk⟩ := hone_of hone j f hj
  have h1 := hf j f hj
  have hjl : j < cs.length := (List.getElem?_eq_some_iff.1 hc).1
  have hcj : cs[j] = c := (List.getElem?_eq_some_iff.1 hc).2
  rw [ho, hk, List.drop_eq_getElem_cons hjl, hcj] at h1
  have hys : ys[j]? = some (ys[j]'(by omega)) := List.getElem?_eq_getElem (by omega)
  exact ⟨_, hys, h1.trans hys⟩

theorem three_parts {t : TypeId} {f0 f1 f2 : Field} {fuel : Nat} {cs : List Value} {x : DataW H × List MemPlace} (hs : P.underlying t = some (.struct #[f0, f1, f2])) (hone : oneCellFields P #[f0, f1, f2] = true) (hlen : cs.length = 3) (h : DataW.trod enc P w base spare held fuel t cs = some x) :
    ∃ c0 c1 c2 y0 y1 y2 n, cs = [c0, c1, c2] ∧ x.1 = .agg [y0.1, y1.1, y2.1] ∧ DataW.trod enc P w base spare held n f0.type [c0] = some y0 ∧ DataW.trod enc P w base spare held n f1.type [c1] = some y1 ∧ DataW.trod enc P w base spare held n f2.type [c2] = some y2 := by
  obtain ⟨ys, n, hyl, rfl, hf⟩ := struct_parts hs hone hlen h
  match cs, hlen, ys, hyl with
  | [c0, c1, c2], _, [y0, y1, y2], _ =>
    obtain ⟨_, e0, t0⟩ := hf 0 f0 c0 rfl rfl
    obtain ⟨_, e1, t1⟩ := hf 1 f1 c1 rfl rfl
    obtain ⟨_, e2, t2⟩ := hf 2 f2 c2 rfl rfl
    cases e0; cases e1; cases e2
    exact ⟨c0, c1, c2, y0, y1, y2, n, rfl, rfl, t0, t1, t2⟩

theorem five_parts {t : TypeId} {f0 f1 f2 f3 f4 : Field} {fuel : Nat} {cs : List Value} {x : DataW H × List MemPlace} (hs : P.underlying t = some (.struct #[f0, f1, f2, f3, f4])) (hone : oneCellFields P #[f0, f1, f2, f3, f4] = true) (hlen : cs.length = 5) (h : DataW.trod enc P w base spare held fuel t cs = some x) :
    ∃ c0 c1 c2 c3 c4 y0 y1 y2 y3 y4 n, cs = [c0, c1, c2, c3, c4] ∧ x.1 = .agg [y0.1, y1.1, y2.1, y3.1, y4.1] ∧ DataW.trod enc P w base spare held n f0.type [c0] = some y0 ∧ DataW.trod enc P w base spare held n f1.type [c1] = some y1 ∧ DataW.trod enc P w base spare held n f2.type [c2] = some y2 ∧
      DataW.trod enc P w base spare held n f3.type [c3] = some y3 ∧ DataW.trod enc P w base spare held n f4.type [c4] = some y4 := by
  obtain ⟨ys, n, hyl, rfl, hf⟩ := struct_parts hs hone hlen h
  match cs, hlen, ys, hyl with
  | [c0, c1, c2, c3, c4], _, [y0, y1, y2, y3, y4], _ =>
    obtain ⟨_, e0, t0⟩ := hf 0 f0 c0 rfl rfl
    obtain ⟨_, e1, t1⟩ := hf 1 f1 c1 rfl rfl
    obtain ⟨_, e2, t2⟩ := hf 2 f2 c2 rfl rfl
    obtain ⟨_, e3, t3⟩ := hf 3 f3 c3 rfl rfl
    obtain ⟨_, e4, t4⟩ := hf 4 f4 c4 rfl rfl
    cases e0; cases e1; cases e2; cases e3; cases e4
    exact ⟨c0, c1, c2, c3, c4, y0, y1, y2, y3, y4, n, rfl, rfl, t0, t1, t2, t3, t4⟩
end

theorem cells32 : Try.prog.cellsOf 32 = 3 := by kernel_rfl
theorem cells25 : Try.prog.cellsOf 25 = 5 := by kernel_rfl
theorem bytes32 : Try.prog.bytesOf 32 = 40 := by kernel_rfl

/-- what a string's, an int's cell holds -/
def cellStr : Option Value → ByteArray
  | some (.string s) => s
  | _ => ⟨#[]⟩
def cellInt : Option Value → Int
  | some (.int _ n) => n
  | _ => 0

section
variable {H : Type} {enc : TypeId × Value → H} {w : World} {base : Nat} {spare : Nat → Bool} {held : Bool}
theorem open_pair {fuel : Nat} {cs : List Value} {x : DataW H × List MemPlace} (hlen : cs.length = 3) (h : DataW.trod enc Try.prog w base spare held fuel 32 cs = some x) : ∃ p : Pr, cs = p.cells := by
  obtain ⟨c0, c1, c2, y0, y1, y2, n, rfl, _, t0, t1, t2⟩ := three_parts Try.underlying32 (by kernel_rfl) hlen h
  obtain ⟨s0, e0, _⟩ := DataW.trod_string Try.underlying9 t0
  obtain ⟨s1, e1, _⟩ := DataW.trod_string Try.underlying9 t1
  obtain ⟨s2, e2, _⟩ := DataW.trod_int Try.underlying3 t2
  cases e0; cases e1; cases e2
  exact ⟨⟨s0, s1, s2⟩, rfl⟩

/-- a slice of pairs that came in -/
theorem open_pairs {fuel : Nat} {cs : List Value} {x : DataW H × List MemPlace} (h : DataW.trod enc Try.prog w base spare held fuel 23 cs = some x) (hsp : ∀ b, spare b = true) :
    ∃ a n c, cs = [.slice a n c] ∧ (a = none → c = 0) ∧ n ≤ c ∧ (c * 40 ≤ 140737488351232 → ∃ ps, PS w 0 a n c ps) ∧ (x.1 = .nil ∧ c = 0 ∨ ∃ e s, x.1 = .slice e s ∧ e.length + s.length = c) := by
  rcases open_slice Try.underlying23 h with ⟨rfl, rfl⟩ | ⟨a, len, cap, m, n, D, Pl, rfl, hb, hl, hm, hmm, rfl, hi⟩
  · exact ⟨none, 0, 0, rfl, fun _ => rfl, Nat.le_refl _, fun _ => ⟨[], PS.nil _ _⟩, .inl ⟨rfl, rfl⟩⟩
  · rw [if_pos (hsp _)] at hmm
    subst hmm
    refine ⟨some a, len, m, rfl, nofun, hl, fun h40 => ?_, .inr ⟨_, _, rfl, by simp; omega⟩⟩
    have hcell : ∀ i, i < m → ∃ p : Pr, ∀ j, j < 3 → w.cell? (a.add (i * 3 + j)) = p.cells[j]? := by
      intro i him
      obtain ⟨cs', hc, ht'⟩ := hi i him
      rw [cells32] at hc
      obtain ⟨_, hcl, hat⟩ := World.cells?_some hc
      obtain ⟨p, rfl⟩ := open_pair hcl ht'
      exact ⟨p, fun j hj => by rw [← Go.Deep.add_add]; exact hat j hj⟩
    let f : Nat → Pr := fun i => ⟨cellStr (w.cell? (a.add (i * 3))), cellStr (w.cell? (a.add (i * 3 + 1))), cellInt (w.cell? (a.add (i * 3 + 2)))⟩
    have hf : ∀ i, i < m → ∀ j, j < 3 → w.cell? (a.add (i * 3 + j)) = (f i).cells[j]? := by
      intro i him
      obtain ⟨p, hp⟩ := hcell i him
      have h0 := hp 0 (by omega)
      have h1 := hp 1 (by omega)
      have h2 := hp 2 (by omega)
      have : f i = p := by
        show (⟨cellStr (w.cell? (a.add (i * 3 + 0))), cellStr (w.cell? (a.add (i * 3 + 1))), cellInt (w.cell? (a.add (i * 3 + 2)))⟩ : Pr) = p
        rw [h0, h1, h2]; rfl
      rw [this]; exact hp
    refine ⟨(List.range len).map f, by simp, by omega, hl, fun hne => ?_⟩
    have hl0 : 0 < len := by
      rcases Nat.eq_zero_or_pos len with h0 | h0
      · subst h0; exact absurd rfl hne
      · exact h0
    have hcells : ∀ j, j < (prCells ((List.range len).map f)).length → w.cell? (a.add j) = (prCells ((List.range len).map f))[j]? := by
      intro j hj
      rw [prCells_len] at hj
      simp at hj
      have e : j = j / 3 * 3 + j % 3 := by omega
      rw [e, prCells, flat_get Pr.cells 3 Pr.cells_len _ _ _ (Nat.mod_lt _ (by omega)), hf _ (by omega) _ (Nat.mod_lt _ (by omega))]
      rw [List.getElem?_map, List.getElem?_range (by omega)]
      rfl
    obtain ⟨b, off, spot⟩ := a
    have hspot : spot = none := by
      obtain ⟨p, hp⟩ := hcell 0 (by omega)
      have := hp 0 (by omega)
      simpa [Addr.add] using World.cell?_spot (this : _ = some (Value.string p.k))
    subst hspot
    exact ⟨b, off, rfl, Nat.zero_le _, fun j hj => ⟨by rw [← Addr.add_lit]; exact hcells j hj, fun h => absurd h (by omega)⟩⟩

set_option maxRecDepth 100000 in
/-- a reply that came in, by value -/
theorem open_reply {b0 : Nat} {v : Value} {d : DataW H} {p : List MemPlace} (hv : Value.okWide Try.prog w .any b0 25 v) (h : DataW.Trod enc Try.prog w base (fun _ => true) held 25 v d p) (hz : (d.weights Try.prog 25).all (· ≤ reachBytes) = true) :
    ∃ (r : Rep) (a : Option Addr) (n c : Nat), v = .agg #[.int .i64 r.why, .bool r.found, .string r.val, .int .i64 r.ver, .slice a n c] ∧ PS w 0 a n c r.ps ∧ (a = none → c = 0) := by
  have hv' := okWide_struct Try.underlying25 hv
  rw [cells25] at hv'
  obtain ⟨⟨l⟩, rfl, hsz⟩ := hv'
  obtain ⟨fuel, hf⟩ := h
  obtain ⟨c0, c1, c2, c3, c4, y0, y1, y2, y3, y4, n, hl, hx, t0, t1, t2, t3, t4⟩ := five_parts Try.underlying25 (by kernel_rfl) hsz hf
  have hl' : l = [c0, c1, c2, c3, c4] := hl
  subst hl'
  obtain ⟨s0, e0, _⟩ := DataW.trod_int Try.underlying22 t0
  obtain ⟨s1, e1, _⟩ := DataW.trod_bool Try.underlying4 t1
  obtain ⟨s2, e2, _⟩ := DataW.trod_string Try.underlying9 t2
  obtain ⟨s3, e3, _⟩ := DataW.trod_int Try.underlying3 t3
  obtain ⟨a, m, c, e4, hnil, hmc, hps, hd⟩ := open_pairs t4 (fun _ => rfl)
  cases e0; cases e1; cases e2; cases e3; cases e4
  have hc40 : c * 40 ≤ 140737488351232 := by
    rcases hd with ⟨_, rfl⟩ | ⟨es, sp, hy, hlen⟩
    · omega
    · rw [show d = _ from hx, hy] at hz
      have := List.all_eq_true.1 hz ((es.length + sp.length) * Try.prog.bytesOf 32) (by
        simp only [DataW.weights, DataW.weightsEach, Try.underlying25, Try.underlying23, List.map_cons, List.map_nil, List.mem_append, List.mem_cons]
        simp)
      rw [bytes32, hlen] at this
      exact of_decide_eq_true this
  obtain ⟨ps, hps⟩ := hps hc40
  exact ⟨⟨s0, s1, s2, s3, ps⟩, a, m, c, rfl, hps, hnil⟩
end

set_option maxRecDepth 100000 in
theorem kept_lifted (os : Os) (started : os.Started) (H : Type) (enc : TypeId × Value → H) :
    ReturnsInHanded {} Try.checked os 3 .any (Rows.dedupKeptSpec.pre6 enc Try.prog Try.f3 Rows.dedupKeptRow.domain false) (Rows.dedupKeptSpec.post enc Try.prog Try.f3 false true false false) := by
  refine returnsInHanded_of_change_sized (C := Try.checked) kept_own started (by kernel_rfl) Try.func3
    (ChangeSpec.witness6 (enc := enc) (C := Try.checked) false ⟨#[], #[.agg #[.int .i64 0, .bool false, .string ⟨#[]⟩, .int .i64 0, .slice none 0 0], .int .i64 0], []⟩ 8 (by kernel_rfl) (by kernel_rfl) (by kernel_rfl) (by kernel_rfl)) ?_
  intro W base args ds gs before hval0 hW _ hsz0 _
  have hsz : (DataW.weightsEach Try.prog (Try.f3.params.toList ++ Rows.dedupKeptSpec.plain.varTypes Try.prog) (ds ++ gs)).all (· ≤ reachBytes) = true := hsz0
  clear hsz0
  have hval : ∀ (j : Nat) t v, Try.f3.params[j]? = some t → args[j]? = some v → Value.okWide Try.prog W .any base t v := hval0
  have hW' := hW
  obtain ⟨p, q, hA0, hV, rfl, hfz, hnd⟩ := hW
  have hA : DataW.TrodAll enc Try.prog W 0 (fun _ => true) true Try.f3.params.toList args.toList ds p := hA0
  rw [Try.params3] at hA hval hsz
  obtain ⟨v0, vs0, d0, ds0, p0, q0, hargs, rfl, rfl, h0, r0⟩ := trodAll_cons hA
  obtain ⟨v1, vs1, d1, ds1, p1, q1, rfl, rfl, rfl, h1, r1⟩ := trodAll_cons r0
  obtain ⟨rfl, rfl, rfl⟩ := trodAll_nil r1
  obtain rfl : args = #[v0, v1] := by cases args; simp_all
  obtain ⟨rfl, rfl⟩ := trodVars_none hV
  clear hA0 hA r0 r1 hV
  simp only [List.append_nil, List.nil_append] at hW' hsz ⊢
  have hz0 : (d0.weights Try.prog 25).all (· ≤ reachBytes) = true := by
    rw [List.all_eq_true] at hsz ⊢
    exact fun x hx => hsz x (DataW.weights_mem_each (j := 0) (t := 25) (d := d0) rfl rfl x hx)
  obtain ⟨r, a, n, c, rfl, hps, hnil⟩ := open_reply (hval 0 25 v0 rfl rfl) h0 hz0
  have h1k := h1
  obtain ⟨a1, rfl, rfl, rfl, w1⟩ := open_int Try.underlying3 (hval 1 3 v1 rfl rfl) h1
  have hb : -9223372036854775808 ≤ a1 ∧ a1 ≤ 9223372036854775807 := by simpa [Lit.wf, IntKind.min, IntKind.max, IntKind.signed, IntKind.bits] using w1
  refine (kept3 r a n c a1 W hb.1 hb.2 hps hnil).mono fun e W' ⟨he, hB⟩ => ?_
  subst he
  refine ⟨_, rfl, _, _, _, [], p0 ++ ([] ++ []), [], hW', ?_, ?_, rfl, hB.frame _, fun h => by cases h⟩
  · exact trodAll_mk1 (shut_bool Try.underlying4 _)
  · exact trodAll_cons_mk (Below.trod kept_laidOut (by kernel_rfl) (of_decide_eq_true (by kernel_rfl)) h0 hB (fun x hx => hW'.lt x (by simp [hx]))) (trodAll_cons_mk (shut_int Try.underlying3 w1) trodAll_mk0)

theorem dedupkept_holds : Rows.DedupKeptSaid :=
  OpenClaim.holds_of_wide 3 Try.f3 rfl rfl rfl rfl rfl rfl rfl ⟨rfl, rfl, rfl, rfl, rfl⟩ rfl rfl rfl rfl rfl (by kernel_rfl) Try.func3 (by kernel_rfl)
    (of_decide_eq_true (by kernel_rfl)) (by unfold Func.isWrapper; first | (rw [if_pos (by decide +kernel)]; kernel_rfl) | (rw [if_neg (by decide +kernel)]; exact ⟨rfl, rfl⟩))
    (fun os started H enc _ => kept_lifted os started H enc)

#print axioms dedupkept_holds
end Go.Proofs.Ythdcdckmmfdfgaa
