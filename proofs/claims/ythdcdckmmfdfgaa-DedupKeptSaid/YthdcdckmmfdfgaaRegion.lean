/- A region that draws its order, walked in ONE order of one's own: what only reads is taken as soon as it may come up; what acts is forced. -/
import Derived.Test.YthdcdckmmfdfgaaBase
import Derived.OrdersHeld
import Derived.Deep.QuietTactic
import Derived.BigQuiet
import Derived.Deep.MidRow
set_option linter.unusedVariables false
set_option linter.unusedSimpArgs false
namespace Go.Proofs.Ythdcdckmmfdfgaa
open Go.RowKit

/-- but for the blocks of K all below block N is as it was -/
structure Same (N : Nat) (K : List Nat) (w w' : World) : Prop where
  size : w.heap.size ≤ w'.heap.size
  block : ∀ b, b < N → b ∉ K → w'.heap[b]? = w.heap[b]?
theorem Same.refl (N : Nat) (K : List Nat) (w : World) : Same N K w w := ⟨Nat.le_refl _, fun _ _ _ => rfl⟩
theorem Same.trans {N : Nat} {K : List Nat} {a b c : World} (h : Same N K a b) (k : Same N K b c) : Same N K a c :=
  ⟨Nat.le_trans h.size k.size, fun i hi hk => (k.block i hi hk).trans (h.block i hi hk)⟩
theorem Same.of_below {N B : Nat} {K : List Nat} {w w' : World} (h : Below B w w') (hN : N ≤ B) : Same N K w w' := ⟨h.size, fun b hb _ => h.block b (Nat.lt_of_lt_of_le hb hN)⟩
theorem Same.cell {N : Nat} {K : List Nat} {w w' : World} (h : Same N K w w') {b o : Nat} (hb : b < N) (hk : b ∉ K) : w'.cell? ⟨b, o, none⟩ = w.cell? ⟨b, o, none⟩ := World.cell?_of_block (h.block b hb hk)
theorem Same.setCell {N : Nat} {K : List Nat} {w w' : World} (h : Same N K w w') {p : Addr} (hp : p.block ∈ K ∨ N ≤ p.block) (u : Value) : Same N K w (w'.setCell p u) :=
  ⟨by simpa [World.setCell] using h.size, fun b hb hk => (setCell_block w' p u b (fun e => by subst e; rcases hp with hp | hp; exact hk hp; omega)).trans (h.block b hb hk)⟩
theorem Same.setRow {N : Nat} {K : List Nat} {w w' : World} (h : Same N K w w') {g : Nat} (hg : g ∈ K ∨ N ≤ g) (xs : Array Value) : Same N K w (w'.setRow g xs) :=
  ⟨by simpa using h.size, fun b hb hk => (Go.setRow_other w' g b xs (fun e => by subst e; rcases hg with hp | hp; exact hk hp; omega)).trans (h.block b hb hk)⟩
theorem Same.alloc {N : Nat} {K : List Nat} {w w' : World} (h : Same N K w w') (hN : N ≤ w'.heap.size) (o : Obj) : Same N K w (w'.alloc o) :=
  h.trans ⟨by simp, fun b hb _ => Below.heap_alloc _ _ _ (by omega)⟩
theorem Same.grown {N : Nat} {K : List Nat} {w w' w'' : World} {row : Option Nat} (h : Same N K w w') (hg : w'.grownBy w'' row) (hN : N ≤ w'.heap.size) (hr : ∀ k, row = some k → k ∈ K ∨ N ≤ k) : Same N K w w'' :=
  h.trans ⟨hg.size, fun b hb hk => hg.block b (by omega) (fun e => by rcases hr b e.symm with h | h; exact hk h; omega)⟩

open Classical in
/-- any world that is as w but for the blocks of K and those from N on -/
noncomputable def mix (N : Nat) (K : List Nat) (w w2 : World) : World := if Same N K w w2 then w2 else w
theorem mix_same (N : Nat) (K : List Nat) (w w2 : World) : Same N K w (mix N K w w2) := by
  unfold mix; split
  · assumption
  · exact Same.refl _ _ _
theorem mix_eq {N : Nat} {K : List Nat} {w w' : World} (h : Same N K w w') : mix N K w w' = w' := by unfold mix; rw [if_pos h]
theorem mix_cell (N : Nat) (K : List Nat) (w w2 : World) (b o : Nat) (hb : b < N) (hk : b ∉ K) : (mix N K w w2).cell? ⟨b, o, none⟩ = w.cell? ⟨b, o, none⟩ := (mix_same N K w w2).cell hb hk

/-- operations that hand back a value and do nothing else -/
def readsOnly (o : Oper) : Bool :=
  match o.op with
  | .move _ | .assign _ | .pick .. | .load .. | .nilCheck _ | .binOp .. | .unOp .. | .convert .. | .fieldAddr .. | .field .. | .indexAddr .. | .index .. | .slice .. | .extract .. | .build .. | .lookup .. => true
  | .call { callee := .builtin b, .. } => match b with | .len | .cap | .min | .max => true | _ => false
  | _ => false

theorem run_valued {P : Program} {s : Sem Value} {w w' : World} {n : Next} (h : (do pure (Next.value (← s)) : Sem Next).run P w = .ok n w') : ∃ v, n = .value v := by
  simp only [Sem.run_bind] at h
  cases hs : s.run P w with
  | ok v w1 => rw [hs] at h; simp [Result.andThen] at h; exact ⟨v, h.1.symm⟩
  | halt x w1 => rw [hs] at h; simp [Result.andThen] at h

theorem readsOnly_value {P : Program} {ρ : Operand → Value} {o : Oper} {w w' : World} {n : Next} (ho : readsOnly o = true) (h : (execOp ρ o).run P w = .ok n w') : ∃ v, n = .value v := by
  obtain ⟨dst, op, type, pos, after, guard⟩ := o
  unfold readsOnly at ho
  unfold execOp at h
  cases op <;> simp only [Bool.false_eq_true] at ho <;> simp only at h
  case move x => simp at h; exact ⟨_, h.1.symm⟩
  case assign x => simp at h; exact ⟨_, h.1.symm⟩
  case pick c a b =>
    simp only [Sem.run_bind] at h
    cases hs : (asBool (ρ c)).run P w with
    | ok v w1 => rw [hs] at h; simp [Result.andThen] at h; exact ⟨_, h.1.symm⟩
    | halt x w1 => rw [hs] at h; simp [Result.andThen] at h
  case nilCheck x =>
    have dead : ∀ w, ∀ n w', ¬ ((runtimePanic .nilDeref : Sem Next).run P w = .ok n w') := by
      intro w n w' h; simp [runtimePanic, goPanic] at h
    split at h
    · exact (dead _ _ _ h).elim
    · exact (dead _ _ _ h).elim
    · exact (dead _ _ _ h).elim
    · split at h
      · exact (dead _ _ _ h).elim
      · simp only [Sem.run_bind] at h
        simp only [Result.andThen] at h
        (repeat' split at h) <;> simp_all [Sem.run, unsupported]
        exact ⟨_, h.1.symm⟩
      · simp at h; exact ⟨_, h.1.symm⟩
    · simp at h; exact ⟨_, h.1.symm⟩
  case call c =>
    obtain ⟨callee, args, ats⟩ := c
    cases callee <;> simp only [Bool.false_eq_true] at ho
    case builtin b =>
      cases b <;> simp only [Bool.false_eq_true] at ho
      all_goals
        have h2 := h
        simp only [resolve, invoke, builtin, Sem.run_bind, Sem.run_pure, Result.andThen_ok] at h2
        exact run_valued (by rw [Sem.run_bind]; simpa only [Sem.run_pure] using h2)
  all_goals exact run_valued h

def readsOnlyAt (ops : Array Oper) (i : Nat) : Bool := match ops[i]? with | some o => readsOnly o | none => false

/-- is this an order in which what only reads comes as soon as one likes, and each that acts is the only one that may come? -/
def canonOk (ops : Array Oper) : Array Bool → List (Bool × Nat) → Bool
  | L, [] => (Region.ready .any ops L).isEmpty
  | L, (true, i) :: r => readsOnlyAt ops i && Region.free .any ops L i && (Region.ready .any ops L).contains i && canonOk ops (L.setIfInBounds i true) r
  | L, (false, i) :: r => (Region.ready .any ops L == [i]) && canonOk ops (L.setIfInBounds i true) r

section
variable {P : Program} {ops : Array Oper} {N : Nat} {K : List Nat} {Q : Exit → Act → World → Prop}

/-- the walk in that order -/
def wpCan (P : Program) (ops : Array Oper) (N : Nat) (K : List Nat) (Q : Exit → Act → World → Prop) : List (Bool × Nat) → Act → World → Prop
  | [], a, w => Q .normal a w
  | (true, i) :: r, a, w =>
    match ops[i]? with
    | some o => if Region.wanted o (yielded ops a.tmps) then ∃ v, (∀ w2, (execOp a.eval o).run P (mix N K w w2) = .ok (.value v) (mix N K w w2)) ∧ wpCan P ops N K Q r (a.put o.dst v) w else wpCan P ops N K Q r (a.put o.dst undef) w
    | none => False
  | (false, i) :: r, a, w => wpOp P ops Q i (fun a' w' => Same N K w w' ∧ wpCan P ops N K Q r a' w') a w

theorem wpAnyH_weaken {S S' : World → Prop} (h : ∀ w, S w → S' w) : ∀ (fuel : Nat) (L : Array Bool) (a : Act) (w : World), wpAnyH P .any ops Q S fuel L a w → wpAnyH P .any ops Q S' fuel L a w
  | 0, _, _, _, g => g
  | fuel + 1, _, _, _, g => ⟨g.1, fun i hi => wpOp_mono (fun a' w' ⟨g1, g2⟩ => ⟨h _ g1, wpAnyH_weaken h fuel _ a' w' g2⟩) (g.2 i hi)⟩

theorem canon_sound (hsel : Region.noSelect ops = true) (hQ : ∀ c a d v w, Q (.panic c) (Act.put a d v) w → Q (.panic c) a w) :
    ∀ (steps : List (Bool × Nat)) (L : Array Bool) (a : Act) (w : World), canonOk ops L steps = true → wpCan P ops N K Q steps a w → wpAnyH P .any ops Q (Same N K w) steps.length L a w
  | [], L, a, w, hc, h => wpAnyH_done (by simpa [canonOk] using hc) h _
  | (true, i) :: r, L, a, w, hc, h => by
    simp only [canonOk, Bool.and_eq_true] at hc
    obtain ⟨⟨⟨h1, h2⟩, h3⟩, h4⟩ := hc
    unfold readsOnlyAt at h1
    unfold wpCan at h
    cases ho : ops[i]? with
    | none => rw [ho] at h1; cases h1
    | some o =>
      rw [ho] at h1 h
      simp only at h1 h
      by_cases hw : Region.wanted o (yielded ops a.tmps) = true
      · rw [if_pos hw] at h
        obtain ⟨v, hv, hr⟩ := h
        refine wpAnyH_take (i := i) (oi := o) (v := v) ho hsel h2 h3 (fun c a w g => hQ c a o.dst v w g) (.inl ⟨hw, fun w' hw' => ?_⟩) (Same.refl _ _ _) (canon_sound hsel hQ r _ _ w h4 hr)
        have := hv w'
        rwa [mix_eq hw'] at this
      · rw [if_neg hw] at h
        exact wpAnyH_take (i := i) (oi := o) (v := undef) ho hsel h2 h3 (fun c a w g => hQ c a o.dst undef w g) (.inr ⟨by simpa using hw, rfl⟩) (Same.refl _ _ _) (canon_sound hsel hQ r _ _ w h4 h)
  | (false, i) :: r, L, a, w, hc, h => by
    simp only [canonOk, Bool.and_eq_true, beq_iff_eq] at hc
    refine wpAnyH_all hc.1 (by simp) fun j hj => ?_
    obtain rfl := List.mem_singleton.1 hj
    unfold wpCan at h
    exact wpOp_mono (fun a' w' ⟨g1, g2⟩ => ⟨g1, wpAnyH_weaken (fun w'' g => g1.trans g) _ _ _ _ (canon_sound hsel hQ r _ _ w' hc.2 g2)⟩) h

/-- A REGION THAT DRAWS, in an order of one's own. -/
theorem wp_region_canon {id : Nat} {a : Act} {w : World} (N : Nat) (K : List Nat) (steps : List (Bool × Nat)) (hm : P.follows .mixedOrders = true) (hsel : Region.noSelect ops = true)
    (hlen : steps.length = ops.size) (hc : canonOk ops (Array.replicate ops.size false) steps = true) (hQ : ∀ c a d v w, Q (.panic c) (Act.put a d v) w → Q (.panic c) a w)
    (h : wpCan P ops N K Q steps a w.drew) : (Code.region id ops true).wp P Q a w :=
  wp_region_held (S := Same N K w.drew) hm (by have := canon_sound hsel hQ steps _ a w.drew hc h; rw [hlen] at this; exact this)

theorem wpCan_nil {a : Act} {w : World} (h : Q .normal a w) : wpCan P ops N K Q [] a w := h

/-- operations by their numbers -/
def nth {α : Type} : List α → Nat → Option α
  | [], _ => none
  | x :: _, 0 => some x
  | _ :: l, n + 1 => nth l n
theorem nth_eq {α : Type} : ∀ (l : List α) (n : Nat), nth l n = l[n]?
  | [], _ => by simp [nth]
  | x :: _, 0 => by simp [nth]
  | _ :: l, n + 1 => by simp [nth, nth_eq l n]
theorem nth_get {α : Type} {xs : Array α} {n : Nat} {x : α} (h : nth xs.toList n = some x) : xs[n]? = some x := by rw [nth_eq] at h; simpa using h
inductive Picks (ops : Array Oper) : List Nat → List Oper → Prop
  | nil : Picks ops [] []
  | cons {i : Nat} {o : Oper} {is : List Nat} {os : List Oper} (h : nth ops.toList i = some o) (hs : Picks ops is os) : Picks ops (i :: is) (o :: os)

/-- a stretch of operations that only read -/
theorem wpCan_reads {a : Act} {w : World} {rest : List (Bool × Nat)} {qs : List Nat} {os : List Oper} (hos : Picks ops qs os) (hr : os.all readsOnly = true)
    (h : wpQuiet P ops (fun w' => ∃ w2, w' = mix N K w w2) (fun a' => wpCan P ops N K Q rest a' w) os a) : wpCan P ops N K Q (qs.map (fun i => (true, i)) ++ rest) a w := by
  induction hos generalizing a with
  | nil => exact h
  | @cons i o qs os ho' hos ih =>
    have ho := nth_get ho'
    simp only [List.all_cons, Bool.and_eq_true] at hr
    simp only [List.map_cons, List.cons_append, wpCan, ho]
    unfold wpQuiet at h
    split
    · rename_i hw
      rw [if_pos hw] at h
      obtain ⟨v, hv, hn⟩ := h
      refine ⟨v, fun w2 => ?_, ih hr.2 hn⟩
      have := hv _ ⟨w2, rfl⟩
      unfold Oper.quietAt at this
      cases hres : (execOp a.eval o).run P (mix N K w w2) with
      | ok n w' =>
        obtain ⟨u, rfl⟩ := readsOnly_value hr.1 hres
        rw [hres] at this
        simp only [Oper.quietUpon] at this
        rw [this.1, this.2]
      | halt x w' => rw [hres] at this; exact this.elim
    · rename_i hw
      rw [if_neg hw] at h
      exact ih hr.2 h

/-- one operation that acts -/
theorem wpCan_acts {a : Act} {w : World} {rest : List (Bool × Nat)} {i : Nat} (o : Oper) (ho' : nth ops.toList i = some o)
    (h : wpList P ops (fun e a' w' => match e with | .normal => Same N K w w' ∧ wpCan P ops N K Q rest a' w' | e => Q e a' w') [o] a w) : wpCan P ops N K Q ((false, i) :: rest) a w := by
  have ho := nth_get ho'
  unfold wpCan wpOp
  rw [ho]
  simp only
  unfold wpList at h
  split
  · rename_i hw
    rw [if_pos hw] at h
    rcases h with h | ⟨h1, h2⟩
    · refine .inl ?_
      unfold Oper.wp at *
      generalize (execOp a.eval o).run P w = r at *
      cases r with
      | ok n w' =>
        cases n <;> simp only [Oper.upon] at h ⊢ <;>
          first
            | exact h
            | exact Calls.mono h (fun e w'' he => by cases e <;> exact he)
            | exact Rows.mono h (fun _ _ he => he)

      | halt x w' => cases x <;> simp only [Oper.upon] at h ⊢ <;> exact h
    · exact .inr ⟨h1, h2⟩
  · rename_i hw
    rw [if_neg hw] at h
    exact h

/-- the same, step by step, where several that act may come -/
theorem wp_region_steps {id : Nat} {a : Act} {w : World} (N : Nat) (K : List Nat) (hm : P.follows .mixedOrders = true)
    (h : wpAnyH P .any ops Q (Same N K w.drew) ops.size (Array.replicate ops.size false) a w.drew) : (Code.region id ops true).wp P Q a w :=
  wp_region_held (S := Same N K w.drew) hm h

theorem steps_reads {a : Act} {w : World} {L L' : Array Bool} {fuel fuel' : Nat} (qs : List Nat) (hsel : Region.noSelect ops = true) (hQ : ∀ c a d v w, Q (.panic c) (Act.put a d v) w → Q (.panic c) a w)
    (os : List Oper) (hos : Picks ops qs os) (hr : os.all readsOnly = true) (hf : fuel = qs.length + fuel')
    (hc : (qs.foldl (fun (x : Bool × Array Bool) i => (x.1 && Region.free .any ops x.2 i && (Region.ready .any ops x.2).contains i, x.2.setIfInBounds i true)) (true, L)) = (true, L'))
    (h : wpQuiet P ops (fun w' => ∃ w2, w' = mix N K w w2) (fun a' => wpAnyH P .any ops Q (Same N K w) fuel' L' a' w) os a) : wpAnyH P .any ops Q (Same N K w) fuel L a w := by
  subst hf
  induction hos generalizing a L with
  | nil =>
    simp only [List.foldl_nil, Prod.mk.injEq, true_and] at hc
    subst hc
    unfold wpQuiet at h
    simpa using h
  | @cons i o qs os ho' hos ih =>
    have ho := nth_get ho'
    simp only [List.all_cons, Bool.and_eq_true] at hr
    have mono : ∀ (qs : List Nat) (b : Bool) (L : Array Bool), (qs.foldl (fun (x : Bool × Array Bool) i => (x.1 && Region.free .any ops x.2 i && (Region.ready .any ops x.2).contains i, x.2.setIfInBounds i true)) (b, L)).1 = true → b = true := by
      intro qs
      induction qs with
      | nil => intro b L h; exact h
      | cons j qs ih => intro b L h; have := ih _ _ h; simp only [Bool.and_eq_true] at this; exact this.1.1
    simp only [List.foldl_cons, Bool.true_and] at hc
    have hb := mono qs _ _ (by rw [hc])
    rw [hb] at hc
    simp only [Bool.and_eq_true] at hb
    unfold wpQuiet at h
    have e : (i :: qs).length + fuel' = (qs.length + fuel') + 1 := by simp; omega
    rw [e]
    split at h
    · rename_i hw
      obtain ⟨v, hv, hn⟩ := h
      refine wpAnyH_take (i := i) (oi := o) (v := v) ho hsel hb.1 hb.2 (fun c a w g => hQ c a o.dst v w g) (.inl ⟨hw, fun w' hw' => ?_⟩) (Same.refl _ _ _) (ih hr.2 hc hn)
      have := hv _ ⟨w', rfl⟩
      rw [mix_eq hw'] at this
      unfold Oper.quietAt at this
      cases hres : (execOp a.eval o).run P w' with
      | ok n w'' =>
        obtain ⟨u, rfl⟩ := readsOnly_value hr.1 hres
        rw [hres] at this
        simp only [Oper.quietUpon] at this
        rw [this.1, this.2]
      | halt x w'' => rw [hres] at this; exact this.elim
    · rename_i hw
      exact wpAnyH_take (i := i) (oi := o) (v := undef) ho hsel hb.1 hb.2 (fun c a w g => hQ c a o.dst undef w g) (.inr ⟨by simpa using hw, rfl⟩) (Same.refl _ _ _) (ih hr.2 hc h)

def Acts (P : Program) (ops : Array Oper) (N : Nat) (K : List Nat) (Q : Exit → Act → World → Prop) (fuel : Nat) (L : Array Bool) (a : Act) (w : World) (rs : List Nat) : Prop :=
  ∀ i ∈ rs, wpOp P ops Q i (fun a' w' => Same N K w w' ∧ wpAnyH P .any ops Q (Same N K w') fuel (L.setIfInBounds i true) a' w') a w
theorem Acts.nil {fuel : Nat} {L : Array Bool} {a : Act} {w : World} : Acts P ops N K Q fuel L a w [] := fun _ h => by cases h
theorem Acts.cons {fuel : Nat} {L : Array Bool} {a : Act} {w : World} {i : Nat} {rs : List Nat} (o : Oper) (ho' : nth ops.toList i = some o)
    (h : wpList P ops (fun e a' w' => match e with | .normal => Same N K w w' ∧ wpAnyH P .any ops Q (Same N K w') fuel (L.setIfInBounds i true) a' w' | e => Q e a' w') [o] a w)
    (hs : Acts P ops N K Q fuel L a w rs) : Acts P ops N K Q fuel L a w (i :: rs) := fun j hj => by
  have ho := nth_get ho'
  rcases List.mem_cons.1 hj with rfl | hj
  · unfold wpOp
    rw [ho]
    simp only
    unfold wpList at h
    split
    · rename_i hw
      rw [if_pos hw] at h
      rcases h with h | ⟨h1, h2⟩
      · refine .inl ?_
        unfold Oper.wp at *
        generalize (execOp a.eval o).run P w = r at *
        cases r with
        | ok n w' =>
          cases n <;> simp only [Oper.upon] at h ⊢ <;>
            first
              | exact h
              | exact Calls.mono h (fun e w'' he => by cases e <;> exact he)
              | exact Rows.mono h (fun _ _ he => he)
        | halt x w' => cases x <;> simp only [Oper.upon] at h ⊢ <;> exact h
      · exact .inr ⟨h1, h2⟩
    · rename_i hw
      rw [if_neg hw] at h
      exact h
  · exact hs j hj
theorem steps_acts {a : Act} {w : World} {L : Array Bool} {fuel : Nat} (rs : List Nat) (hr : Region.ready .any ops L = rs) (hne : rs ≠ []) (h : Acts P ops N K Q fuel L a w rs) :
    wpAnyH P .any ops Q (Same N K w) (fuel + 1) L a w :=
  wpAnyH_all hr hne fun i hi => wpOp_mono (fun _ _ ⟨g1, g2⟩ => ⟨g1, wpAnyH_weaken (fun _ g => g1.trans g) _ _ _ _ g2⟩) (h i hi)

/-- a row loaded whole, among what only reads -/
theorem wpQuiet_load_row {C : World → Prop} {R : Act → Prop} {a : Act} {o : Oper} {rest : List Oper} (hw : Region.wanted o (yielded ops a.tmps) = true) (ty : TypeId) (x : Operand) (ho : o.op = .load ty x)
    (b off : Nat) (hx : a.eval x = .pointer (some ⟨b, off, none⟩)) (cs : List Value) (d : TypeDesc) (hS : ∀ w, C w → w.rangeAt b off cs)
    (hu : P.underlying ty = some d) (hd : d.isRow = true) (hi : (P.info? ty).map (·.size) = some cs.length)
    (h : wpQuiet P ops C R rest (a.put o.dst (.agg cs.toArray))) : wpQuiet P ops C R (o :: rest) a := by
  unfold wpQuiet
  rw [if_pos hw]
  refine ⟨_, fun w hC => ?_, h⟩
  unfold Oper.quietAt execOp
  simp only [ho, hx, Instr.loadAt, Instr.sureAddr, Sem.run_bind, Sem.run_pure, Result.andThen_ok, run_loadVar_mid w b off ty cs d (hS w hC) hu hd hi]
  exact ⟨rfl, rfl⟩
end
theorem Blk.range {w : World} {b : Nat} {cs : List Value} {t : TypeId} (h : Blk w b cs t) : w.rangeAt b 0 cs := fun j v hv => by rw [h.cell]; rw [Nat.zero_add]; exact hv
theorem mix_range {N : Nat} {K : List Nat} {w : World} {b o : Nat} {cs : List Value} (h : w.rangeAt b o cs) (hb : b < N) (hk : b ∉ K) : ∀ w', (∃ w2, w' = mix N K w w2) → w'.rangeAt b o cs := by
  rintro w' ⟨w2, rfl⟩ j v hv
  have := h j v hv
  rw [mix_cell N K w w2 b (o + j) hb hk, this]
end Go.Proofs.Ythdcdckmmfdfgaa
