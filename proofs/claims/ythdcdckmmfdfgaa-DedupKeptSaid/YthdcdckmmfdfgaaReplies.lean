/- concordref11.Replies: whether two replies are the same. -/
import Derived.Test.YthdcdckmmfdfgaaTurn
set_option linter.unusedVariables false
set_option linter.unusedSimpArgs false
namespace Go.Proofs.Ythdcdckmmfdfgaa
open Go.RowKit

def Rep.same (a b : Rep) : Bool := decide (a = b)

theorem Pr.parts {p q : Pr} (h : p ≠ q) : ¬ p.k.toList = q.k.toList ∨ (p.k.toList = q.k.toList ∧ ¬ p.v.toList = q.v.toList) ∨ (p.k.toList = q.k.toList ∧ p.v.toList = q.v.toList ∧ ¬ p.n = q.n) := by
  by_cases h1 : p.k.toList = q.k.toList
  · by_cases h2 : p.v.toList = q.v.toList
    · by_cases h3 : p.n = q.n
      · exfalso; apply h; cases p; cases q; simp only at h1 h2 h3; rw [bytes_ext h1, bytes_ext h2, h3]
      · exact .inr (.inr ⟨h1, h2, h3⟩)
    · exact .inr (.inl ⟨h1, h2⟩)
  · exact .inl h1

def RetB (B : Nat) (x : Bool) (w : World) (e : Ending) (w' : World) : Prop := e = .returned (.bool x) ∧ Below B w w'

set_option maxHeartbeats 2000000 in
theorem replies17 (r s : Rep) (a a' : Option Addr) (n c n' c' : Nat) (w : World) (h : PS w 0 a n c r.ps) (h' : PS w 0 a' n' c' s.ps) :
    Calls Try.prog 17 #[.agg #[.int .i64 r.why, .bool r.found, .string r.val, .int .i64 r.ver, .slice a n c], .agg #[.int .i64 s.why, .bool s.found, .string s.val, .int .i64 s.ver, .slice a' n' c']] w
      (RetB w.heap.size (r.same s) w) := by
  obtain ⟨why, found, val, ver, ps⟩ := r
  obtain ⟨why', found', val', ver', qs⟩ := s
  simp only at h h' ⊢
  by_cases h1 : why = why'
  case neg =>
    have H : Hid (Rep.same ⟨why, found, val, ver, ps⟩ ⟨why', found', val', ver', qs⟩ = false) := by show _ = _; simp [Rep.same, h1]
    have h2 : (why == why') = false := by simp [h1]
    have h3 : (why != why') = true := by simp [h1]
    clear h1
    go_enter Try.func17, Try.ntmps17
    go_wp2
    go_ret
    exact ⟨by rw [H.out]; rfl, (by repeat (first | (with_reducible exact Below.refl _ _) | (with_reducible assumption) | (with_reducible refine Below.setCell ?_ (by first | omega | (simp; done) | (simp; omega)) _) | (with_reducible refine Below.alloc ?_ (by first | omega | (simp; done) | (simp; omega)) _) | (with_reducible refine below_setRow ?_ (by first | omega | (simp; done) | (simp; omega)) _) | (with_reducible refine Below.drew ?_)))⟩
  subst h1
  by_cases h1 : found = found'
  case neg =>
    have H : Hid (Rep.same ⟨why, found, val, ver, ps⟩ ⟨why, found', val', ver', qs⟩ = false) := by show _ = _; simp [Rep.same, h1]
    have h2 : (found == found') = false := by simp [h1]
    have h3 : (found != found') = true := by simp [h1]
    clear h1
    go_enter Try.func17, Try.ntmps17
    go_wp2
    go_ret
    exact ⟨by rw [H.out]; rfl, (by repeat (first | (with_reducible exact Below.refl _ _) | (with_reducible assumption) | (with_reducible refine Below.setCell ?_ (by first | omega | (simp; done) | (simp; omega)) _) | (with_reducible refine Below.alloc ?_ (by first | omega | (simp; done) | (simp; omega)) _) | (with_reducible refine below_setRow ?_ (by first | omega | (simp; done) | (simp; omega)) _) | (with_reducible refine Below.drew ?_)))⟩
  subst h1
  by_cases h1 : val = val'
  case neg =>
    have H : Hid (Rep.same ⟨why, found, val, ver, ps⟩ ⟨why, found, val', ver', qs⟩ = false) := by show _ = _; simp [Rep.same, h1]
    have h2 : (val.toList == val'.toList) = false := str_ne h1
    clear h1
    go_enter Try.func17, Try.ntmps17
    go_wp2
    go_ret
    exact ⟨by rw [H.out]; rfl, (by repeat (first | (with_reducible exact Below.refl _ _) | (with_reducible assumption) | (with_reducible refine Below.setCell ?_ (by first | omega | (simp; done) | (simp; omega)) _) | (with_reducible refine Below.alloc ?_ (by first | omega | (simp; done) | (simp; omega)) _) | (with_reducible refine below_setRow ?_ (by first | omega | (simp; done) | (simp; omega)) _) | (with_reducible refine Below.drew ?_)))⟩
  subst h1
  by_cases h1 : ver = ver'
  case neg =>
    have H : Hid (Rep.same ⟨why, found, val, ver, ps⟩ ⟨why, found, val, ver', qs⟩ = false) := by show _ = _; simp [Rep.same, h1]
    have h2 : (ver == ver') = false := by simp [h1]
    have h3 : (ver != ver') = true := by simp [h1]
    clear h1
    go_enter Try.func17, Try.ntmps17
    go_wp2
    go_ret
    exact ⟨by rw [H.out]; rfl, (by repeat (first | (with_reducible exact Below.refl _ _) | (with_reducible assumption) | (with_reducible refine Below.setCell ?_ (by first | omega | (simp; done) | (simp; omega)) _) | (with_reducible refine Below.alloc ?_ (by first | omega | (simp; done) | (simp; omega)) _) | (with_reducible refine below_setRow ?_ (by first | omega | (simp; done) | (simp; omega)) _) | (with_reducible refine Below.drew ?_)))⟩
  subst h1
  obtain ⟨hn, hn40, hs⟩ := h
  obtain ⟨hn', hn40', hs'⟩ := h'
  by_cases h1 : n = n'
  case neg =>
    have H : Hid (Rep.same ⟨why, found, val, ver, ps⟩ ⟨why, found, val, ver, qs⟩ = false) := by
      show _ = _; simp [Rep.same]; intro h; subst h; exact h1 (hn.trans hn'.symm)
    have h2 : ((n : Int) == (n' : Int)) = false := by simp; omega
    have h3 : ((n : Int) != (n' : Int)) = true := by simp; omega
    clear h1 hn hn'
    go_enter Try.func17, Try.ntmps17
    go_wp2
    go_ret
    exact ⟨by rw [H.out]; rfl, (by repeat (first | (with_reducible exact Below.refl _ _) | (with_reducible assumption) | (with_reducible refine Below.setCell ?_ (by first | omega | (simp; done) | (simp; omega)) _) | (with_reducible refine Below.alloc ?_ (by first | omega | (simp; done) | (simp; omega)) _) | (with_reducible refine below_setRow ?_ (by first | omega | (simp; done) | (simp; omega)) _) | (with_reducible refine Below.drew ?_)))⟩
  subst h1
  have hcell : ∀ {a : Option Addr} {c : Nat} {l : List Pr}, n = l.length → SlA w 0 a n c (prCells l) → ∀ k, k < n → ∃ b o, a = some ⟨b, o, none⟩ ∧ b < w.heap.size ∧
      w.cell? ⟨b, o + k * 3, none⟩ = some (.string (l.getD k ⟨⟨#[]⟩, ⟨#[]⟩, 0⟩).k) ∧ w.cell? ⟨b, o + k * 3 + 1, none⟩ = some (.string (l.getD k ⟨⟨#[]⟩, ⟨#[]⟩, 0⟩).v) ∧ w.cell? ⟨b, o + k * 3 + 2, none⟩ = some (.int .i64 (l.getD k ⟨⟨#[]⟩, ⟨#[]⟩, 0⟩).n) := by
    intro a c l hl hs k hk
    have hlen := prCells_len l
    have hne : prCells l ≠ [] := fun h => by rw [h] at hlen; simp at hlen; omega
    obtain ⟨b, o, h1, _, h2, h3, _⟩ := hs.at hne
    have g : ∀ j, j < 3 → w.cell? ⟨b, o + (k * 3 + j), none⟩ = ((l.getD k ⟨⟨#[]⟩, ⟨#[]⟩, 0⟩).cells)[j]? := by
      intro j hj
      rw [h3 _ (by omega)]
      unfold prCells
      rw [flat_get _ 3 Pr.cells_len l k j hj]
      have hkl : k < l.length := by omega
      simp [hkl]
    exact ⟨b, o, h1, h2, g 0 (by omega), g 1 (by omega), g 2 (by omega)⟩
  have HC := Lib.hid (fun k hk => hcell hn hs k hk)
  have HC' := Lib.hid (fun k hk => hcell hn' hs' k hk)
  clear hs hs' hcell
  have HN := Lib.hid hn
  have HN' := Lib.hid hn'
  clear hn hn'
  obtain ⟨W, hW⟩ : ∃ W, W = (w.alloc (.cells #[.int .i64 why, .bool found, .string val, .int .i64 ver, .slice a n c] 25)).alloc (.cells #[.int .i64 why, .bool found, .string val, .int .i64 ver, .slice a' n c'] 25) := ⟨_, rfl⟩
  have hx0 : ∀ o, W.cell? ⟨w.heap.size, o, none⟩ = #[Value.int .i64 why, .bool found, .string val, .int .i64 ver, .slice a n c][o]? := by
    intro o; rw [hW]; exact (Blk.cell (cs := [_, _, _, _, _]) (t := 25) ((Blk.new w _ _).alloc _) o).trans (by simp)
  have hx1 : ∀ o, W.cell? ⟨w.heap.size + 1, o, none⟩ = #[Value.int .i64 why, .bool found, .string val, .int .i64 ver, .slice a' n c'][o]? := by
    intro o; rw [hW]; exact (Blk.cell (cs := [_, _, _, _, _]) (t := 25) (Blk.new' _ _ _ _ (by simp)) o).trans (by simp)
  have hWb : Below w.heap.size w W := by rw [hW]; exact (by repeat (first | (with_reducible exact Below.refl _ _) | (with_reducible assumption) | (with_reducible refine Below.setCell ?_ (by first | omega | (simp; done) | (simp; omega)) _) | (with_reducible refine Below.alloc ?_ (by first | omega | (simp; done) | (simp; omega)) _) | (with_reducible refine below_setRow ?_ (by first | omega | (simp; done) | (simp; omega)) _) | (with_reducible refine Below.drew ?_)))
  go_enter Try.func17, Try.ntmps17
  go_wp2
  rw [← hW]
  clear hW
  go_loopw [5] (fun t wr => ∃ k : Nat, k ≤ n ∧ t = .int .i64 k ∧ ps.take k = qs.take k ∧ ∃ d, wr = W.drewN d) (fun t _ => n - (intOf t).toNat)
  case atStart => exact ⟨0, by omega, rfl, rfl, 0, rfl⟩
  case round =>
    obtain ⟨k, hk, rfl, htake, d, rfl⟩ := hrel
    have HT := Lib.hid htake
    clear htake
    by_cases hlt : k < n
    · obtain ⟨b, o, rfl, hb, c0, c1, c2⟩ := HC.out k hlt
      obtain ⟨b', o', rfl, hb', c0', c1', c2'⟩ := HC'.out k hlt
      clear HC HC'
      rw [← hWb.cell (p := ⟨b, _, none⟩) hb] at c0 c1 c2
      rw [← hWb.cell (p := ⟨b', _, none⟩) hb'] at c0' c1' c2'
      obtain ⟨p, hp⟩ : ∃ p, p = ps.getD k ⟨⟨#[]⟩, ⟨#[]⟩, 0⟩ := ⟨_, rfl⟩
      obtain ⟨q, hq⟩ : ∃ q, q = qs.getD k ⟨⟨#[]⟩, ⟨#[]⟩, 0⟩ := ⟨_, rfl⟩
      rw [← hp] at c0 c1 c2
      rw [← hq] at c0' c1' c2'
      have HP := Lib.hid hp
      have HQ := Lib.hid hq
      clear hp hq
      have hi0 : (0 : Int) ≤ (k : Int) := by omega
      have hi1 : (k : Int) < (n : Int) := by omega
      by_cases hpq : p = q
      · subst hpq
        go_wp2
        go_quiet (fail)
        go_wp2
        go_roundw
        case rel =>
          refine ⟨k + 1, by omega, by go_num, ?_, d + nq, rfl⟩
          have h1 : k < ps.length := by have := HN.out; omega
          have h2 : k < qs.length := by have := HN'.out; omega
          rw [List.take_succ_eq_append_getElem h1, List.take_succ_eq_append_getElem h2, HT.out]
          have := HP.out.symm.trans HQ.out
          simp [h1, h2] at this
          rw [this]
        case measure => simp [intOf]; omega
      · have H : Hid (Rep.same ⟨why, found, val, ver, ps⟩ ⟨why, found, val, ver, qs⟩ = false) := by
          show _ = _; simp [Rep.same]; intro h; subst h; exact hpq (HP.out.trans HQ.out.symm)
        rcases Pr.parts hpq with h1 | ⟨h1, h2⟩ | ⟨h1, h2, h3⟩
        all_goals
          clear hpq
          go_wp2
          go_quiet (fail)
          go_wp2
          go_ret
          exact ⟨by rw [H.out]; rfl, hWb.trans ⟨rfl, rfl, rfl, Nat.le_refl _, fun _ _ => rfl⟩⟩
    · have hkn : k = n := by omega
      subst hkn
      have H : Hid (Rep.same ⟨why, found, val, ver, ps⟩ ⟨why, found, val, ver, qs⟩ = true) := by
        show _ = _; simp [Rep.same]
        have := HT.out
        rwa [HN.out, List.take_length, ← HN.out, HN'.out, List.take_length] at this
      clear HC HC'
      go_wp2
      go_ret
      exact ⟨by rw [H.out]; rfl, hWb.trans ⟨rfl, rfl, rfl, Nat.le_refl _, fun _ _ => rfl⟩⟩
end Go.Proofs.Ythdcdckmmfdfgaa
