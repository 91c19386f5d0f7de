/- Within, and dedup's functions: what each returns, and that nothing that was there turns. -/
import Derived.Test.YthdcdckmmfdfgaaBase
set_option linter.unusedVariables false
set_option linter.unusedSimpArgs false
namespace Go.Proofs.Ythdcdckmmfdfgaa
open Go.RowKit

def within (n lo hi : Int) : Int := lo + n % (hi - lo + 1)

set_option maxHeartbeats 400000 in
theorem within13 (n lo hi : Int) (w : World) (h0 : 0 ≤ lo) (h1 : lo ≤ hi) (h2 : hi ≤ 2305843009213693952) (h3 : -9223372036854775808 ≤ n) (h4 : n ≤ 9223372036854775807) :
    Calls Try.prog 13 #[.int .i64 n, .int .i64 lo, .int .i64 hi] w fun e w' => e = .returned (.int .i64 (within n lo hi)) ∧ w = w' := by
  have hm : 0 < hi - lo + 1 := by omega
  have e1 := Int.tmod_eq_emod (a := n) (b := hi - lo + 1)
  have hlt := Int.emod_lt_of_pos n hm
  have hge := Int.emod_nonneg n (show hi - lo + 1 ≠ 0 by omega)
  obtain ⟨r, hr⟩ : ∃ r, n.tmod (hi - lo + 1) = r := ⟨_, rfl⟩
  have key : (r < 0 ∧ within n lo hi = lo + (r + hi - lo + 1) ∧ -(hi - lo + 1) < r) ∨ (0 ≤ r ∧ within n lo hi = lo + r ∧ r < hi - lo + 1) := by
    unfold within
    rw [hr] at e1
    by_cases hn : 0 ≤ n ∨ hi - lo + 1 ∣ n
    · rw [if_pos hn] at e1; right; omega
    · rw [if_neg hn] at e1
      have hne : n % (hi - lo + 1) ≠ 0 := fun h => hn (.inr (Int.dvd_of_emod_eq_zero h))
      left; omega
  clear e1 hlt hge
  rcases key with ⟨k1, k2, k3⟩ | ⟨k1, k2, k3⟩
  all_goals
    have K2 := Lib.hid k2
    clear k2
    go_enter Try.func13, Try.ntmps13
    go_wp2
    go_ret
    exact ⟨by rw [K2.out]; rfl, rfl⟩

theorem known66 (n : Int) (w : World) (h : 1 ≤ n ∧ n ≤ 8) : Calls Try.prog 66 #[.int .i64 n] w fun e w' => e = .returned (.bool true) ∧ w = w' := by
  have h1 := h.1
  have h2 := h.2
  go_enter Try.func66, Try.ntmps66
  go_wp2
  all_goals
    go_ret
    exact ⟨ret_bool (by first | rfl | (simp; omega)), rfl⟩

theorem known66_no (n : Int) (w : World) (h : n < 1 ∨ 8 < n) : Calls Try.prog 66 #[.int .i64 n] w fun e w' => e = .returned (.bool false) ∧ w = w' := by
  rcases h with h | h
  all_goals
    go_enter Try.func66, Try.ntmps66
    go_wp2
    all_goals
      go_ret
      exact ⟨ret_bool (by first | rfl | (simp; omega)), rfl⟩

theorem info32 : (Try.prog.info? 32).map (fun i => (i.zero, i.size, i.bytes)) = some (some (.agg #[.string ⟨#[]⟩, .string ⟨#[]⟩, .int .i64 0]), 3, 40) := by kernel_rfl

/-- a pair -/
structure Pr where
  k : ByteArray
  v : ByteArray
  n : Int
  deriving DecidableEq
def Pr.cells (p : Pr) : List Value := [.string p.k, .string p.v, .int .i64 p.n]
theorem Pr.cells_len (p : Pr) : p.cells.length = 3 := rfl
def prCells (l : List Pr) : List Value := l.flatMap Pr.cells
theorem prCells_len (l : List Pr) : (prCells l).length = l.length * 3 := flat_len _ 3 Pr.cells_len l
theorem prCells_one (l : List Pr) : ∀ u ∈ prCells l, u.oneCell' = true := by
  intro u hu
  simp only [prCells, List.mem_flatMap] at hu
  obtain ⟨p, _, hp⟩ := hu
  simp only [Pr.cells, List.mem_cons, List.not_mem_nil, or_false] at hp
  rcases hp with rfl | rfl | rfl <;> rfl

/-- a slice of pairs that reads as ps, none of it below block B; its size within the reach -/
def PS (w : World) (B : Nat) (a : Option Addr) (n c : Nat) (ps : List Pr) : Prop :=
  n = ps.length ∧ n * 40 ≤ 140737488351232 ∧ SlA w B a n c (prCells ps)

theorem PS.nil (w : World) (B : Nat) : PS w B none 0 0 [] := ⟨rfl, by omega, SlA.nil w B⟩
theorem PS.mono {w : World} {B B' : Nat} {a : Option Addr} {n c : Nat} {ps : List Pr} (h : PS w B a n c ps) (hB : B' ≤ B) : PS w B' a n c ps := ⟨h.1, h.2.1, h.2.2.mono hB⟩
theorem PS.below {w w' : World} {B : Nat} {a : Option Addr} {n c : Nat} {ps : List Pr} (h : PS w B a n c ps) (hb : Below w.heap.size w w') : PS w' B a n c ps := ⟨h.1, h.2.1, h.2.2.below hb⟩
theorem PS.setCell {w : World} {B : Nat} {a : Option Addr} {n c : Nat} {ps : List Pr} (h : PS w B a n c ps) {p : Addr} (hp : p.block < B) (u : Value) : PS (w.setCell p u) B a n c ps := ⟨h.1, h.2.1, h.2.2.setCell hp u⟩
theorem PS.setRow {w : World} {B : Nat} {a : Option Addr} {n c : Nat} {ps : List Pr} (h : PS w B a n c ps) {g : Nat} (hg : g < B) (xs : Array Value) : PS (w.setRow g xs) B a n c ps := ⟨h.1, h.2.1, h.2.2.setRow hg xs⟩
theorem PS.drew {w : World} {B : Nat} {a : Option Addr} {n c : Nat} {ps : List Pr} (h : PS w B a n c ps) : PS w.drew B a n c ps := h
theorem PS.grown {w w' : World} {B g : Nat} {a : Option Addr} {n c : Nat} {ps : List Pr} (h : PS w B a n c ps) (hg : w.grownBy w' (some g)) (hB : g < B) : PS w' B a n c ps := ⟨h.1, h.2.1, h.2.2.grown hg hB⟩
theorem PS.alloc {w : World} {B : Nat} {a : Option Addr} {n c : Nat} {ps : List Pr} (h : PS w B a n c ps) (o : Obj) : PS (w.alloc o) B a n c ps := ⟨h.1, h.2.1, h.2.2.alloc o⟩

/-- it returns a slice in new memory that reads as ps; what was there stays -/
def RetPS (B : Nat) (ps : List Pr) (w : World) (e : Ending) (w' : World) : Prop :=
  ∃ a n c, e = .returned (.slice a n c) ∧ PS w' B a n c ps ∧ Below B w w'

set_option maxHeartbeats 400000 in
theorem clone139 (a : Option Addr) (n c : Nat) (ps : List Pr) (w : World) (h : PS w 0 a n c ps) :
    Calls Try.prog 139 #[.slice a n c] w (RetPS w.heap.size ps w) := by
  obtain ⟨rfl, hn, h⟩ := h
  have hl := prCells_len ps
  have h1 := prCells_one ps
  have q23 : ∀ (w : World) (a : Option Addr) (n c n' c' : Nat), (binOp .eql 23 (.slice a n c) (.slice none n' c')).run Try.prog w = .ok (.bool a.isNone) w := fun w a n c n' c' => Lib.run_eql_slice_nil w _ _ a n c n' c' Try.underlying23
  obtain ⟨i0, hi, hz0, hz1, hz2⟩ := info_parts info32
  cases a with
  | none =>
    have hcs : ps = [] := by
      rcases Classical.em (prCells ps = []) with h' | h'
      · rw [h'] at hl; exact List.eq_nil_of_length_eq_zero (by simp at hl; omega)
      · obtain ⟨b, o, h2, _⟩ := h.2 h'; cases h2
    subst hcs
    go_enter Try.func139, Try.ntmps139
    go_wp2_with fail
    go_ret
    exact ⟨none, 0, 0, rfl, PS.nil _ _, Below.refl _ _⟩
  | some ad =>
    have hnews : ∀ j u, (prCells ps)[j]? = some u → (w.alloc (.cells #[] 32)).cell? (ad.add j) = some u := by
      intro j u hu
      have hne : prCells ps ≠ [] := by intro h'; rw [h'] at hu; simp at hu
      obtain ⟨b, o, h2, _, h3, h4, _⟩ := h.at hne
      obtain rfl := Option.some.inj h2
      have hj := (List.getElem?_eq_some_iff.1 hu).1
      rw [Addr.add_lit, ((Below.refl w.heap.size w).alloc (Nat.le_refl _) (.cells #[] 32)).cell (p := ⟨b, o + j, none⟩) h3, h4 j hj, hu]
    have hm : ps.length ≤ maxLen := by unfold maxLen; omega
    go_enter Try.func139, Try.ntmps139
    go_wp2_with (first | (at_builtin; refine wpList_append_own _ rfl _ _ 23 rfl w.heap.size 32 i0 (.agg #[.string ⟨#[]⟩, .string ⟨#[]⟩, .int .i64 0]) 3 40 Try.underlying23 hi hz0 hz1 hz2 rfl (by decide) _ 0 [] rfl (World.ownsRow_made w #[] 0 (Nat.le_refl _) (Nat.zero_le _) rfl) ad ps.length c (prCells ps) rfl hl hnews h1 (by omega) (by omega) (by simp) ?_; intro v' w1 hown hgrow _))
    rw [Nat.zero_add, List.nil_append] at hown
    obtain ⟨a', c', rfl, hs⟩ := SlA.of_owns hown
    go_wp2
    go_ret
    exact ⟨a', _, c', rfl, ⟨rfl, hn, hs⟩, ((Below.refl _ _).alloc (Nat.le_refl _) _).grown hgrow (by simp) (fun k hk => by cases hk; exact Nat.le_refl _)⟩

/-- a reply as a value -/
def repV (why : Int) (found : Bool) (val : ByteArray) (ver : Int) (a : Option Addr) (n c : Nat) : Value :=
  .agg #[.int .i64 why, .bool found, .string val, .int .i64 ver, .slice a n c]

/-- it returns the reply with its pairs in new memory -/
def RetRep (B : Nat) (why : Int) (found : Bool) (val : ByteArray) (ver : Int) (ps : List Pr) (w : World) (e : Ending) (w' : World) : Prop :=
  ∃ a n c, e = .returned (.agg #[.int .i64 why, .bool found, .string val, .int .i64 ver, .slice a n c]) ∧ PS w' B a n c ps ∧ Below B w w'

set_option maxHeartbeats 400000 in
theorem copied67 (why : Int) (found : Bool) (val : ByteArray) (ver : Int) (a : Option Addr) (n c : Nat) (ps : List Pr) (w : World) (h : PS w 0 a n c ps) :
    Calls Try.prog 67 #[.agg #[.int .i64 why, .bool found, .string val, .int .i64 ver, .slice a n c]] w (RetRep w.heap.size why found val ver ps w) := by
  go_enter Try.func67, Try.ntmps67
  go_wp2_with fail
  refine (clone139 a n c ps _ ((h.alloc _).alloc _)).mono ?_
  rintro e w1 ⟨a', n', c', rfl, hp, hb⟩
  have hp' : PS w1 (w.heap.size + 2) a' n' c' ps := hp.mono (by simp)
  have hb0 : Below (w.heap.size + 2) _ w1 := hb.mono (by simp)
  have hb1 : Below w.heap.size w w1 := (((Below.refl _ _).alloc (Nat.le_refl _) _).alloc (by simp) _).trans (hb0.mono (by omega))
  obtain ⟨hc, hf⟩ := bcell hb0
  clear hb hp h
  go_wp2
  refine bodyPost_ret (v := .agg #[.int .i64 why, .bool found, .string val, .int .i64 ver, .slice a' n' c']) (by simp [results, Try.results67, go_sem, hc]) rfl ⟨a', n', c', rfl, ?_, ?_⟩
  · exact ((((((hp'.setCell (by simp) _).setCell (by simp) _).setCell (by simp) _).setCell (by simp) _).setCell (by simp) _).setCell (by simp) _).mono (by omega)
  · exact (((((hb1.setCell (by simp) _).setCell (by simp) _).setCell (by simp) _).setCell (by simp) _).setCell (by simp) _).setCell (by simp) _
end Go.Proofs.Ythdcdckmmfdfgaa
