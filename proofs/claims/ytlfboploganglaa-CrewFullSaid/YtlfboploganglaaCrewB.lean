/- Layer 11, crew: the methods that look, and Spawn. -/
import Derived.Test.YtlfboploganglaaCrew
import Derived.Deep.DeepMust
import Derived.Deep.QuietTactic
import Derived.BigQuiet
namespace Go.Proofs.Ytlfboploganglaa
set_option linter.unusedVariables false
set_option linter.unusedSimpArgs false
open Go.RowKit

section
variable {w : World} {S : Nat → Prop} {c : Nat} {L : List One}

set_option maxHeartbeats 400000 in
theorem state_none {p : Option Addr} {g : Int} (hof : OfIs w p g none) :
    Calls Try.prog 19 #[.pointer p, .int .i64 g] w fun e w' => e = .returned (.tuple #[.int .i64 0, .bool false]) ∧ w = w' := by
  go_enter Try.func19, Try.ntmps19
  go_wp2_with (go_at_call 27; refine Calls.mono hof ?_; rintro e w' ⟨rfl, rfl⟩)
  go_ret2
  exact ⟨rfl, rfl⟩

set_option maxHeartbeats 400000 in
theorem state_some {p : Option Addr} {g : Int} {b j : Nat} (hof : OfIs w p g (some ⟨b, j, none⟩)) (st : Int) (hs : w.cell? ⟨b, j + 2, none⟩ = some (.int .i64 st)) :
    Calls Try.prog 19 #[.pointer p, .int .i64 g] w fun e w' => e = .returned (.tuple #[.int .i64 st, .bool true]) ∧ w = w' := by
  go_enter Try.func19, Try.ntmps19
  go_wp2_with (go_at_call 27; refine Calls.mono hof ?_; rintro e w' ⟨rfl, rfl⟩)
  go_ret2
  exact ⟨rfl, rfl⟩

set_option maxHeartbeats 400000 in
theorem at_none {p : Option Addr} {g : Int} (hof : OfIs w p g none) :
    Calls Try.prog 17 #[.pointer p, .int .i64 g] w fun e w' => e = .returned (.tuple #[.int .i64 0, .int .i64 0, .bool false]) ∧ w = w' := by
  go_enter Try.func17, Try.ntmps17
  go_wp2_with (go_at_call 27; refine Calls.mono hof ?_; rintro e w' ⟨rfl, rfl⟩)
  go_ret3
  exact ⟨rfl, rfl⟩

set_option maxHeartbeats 400000 in
theorem at_some {p : Option Addr} {g : Int} {b j : Nat} (hof : OfIs w p g (some ⟨b, j, none⟩)) (pr pl : Int) (hs : w.cell? ⟨b, j, none⟩ = some (.int .i64 pr)) (hp : w.cell? ⟨b, j + 1, none⟩ = some (.int .i64 pl)) :
    Calls Try.prog 17 #[.pointer p, .int .i64 g] w fun e w' => e = .returned (.tuple #[.int .i64 pr, .int .i64 pl, .bool true]) ∧ ∃ n, w' = w.drewN n := by
  go_enter Try.func17, Try.ntmps17
  go_wp2_with (go_at_call 27; refine Calls.mono hof ?_; rintro e w' ⟨rfl, rfl⟩)
  go_quiet (fail)
  go_wp2
  go_ret3
  exact ⟨rfl, _, rfl⟩

set_option maxHeartbeats 400000 in
theorem crew_in (h : CrewAt w S c L) (hL : L.length ≤ 512) (s : Int) : Calls Try.prog 25 #[.pointer (some ⟨c, 0, none⟩), .int .i64 s] w fun e w' =>
    ∃ a cap n, e = .returned (.slice a n cap) ∧ Rd w' 1 a n (ints (inF L s L.length)) ∧ Frm Nil w w' := by
  obtain ⟨a, cap, hc, hf, hm, hcells⟩ := h.cells
  unfold maxLen at hm
  go_enter Try.func25, Try.ntmps25
  go_wp2_with (go_at_call 11; refine (crew_len h).mono ?_; rintro e w' ⟨rfl, rfl⟩)
  go_loopw [5, 9] (fun v i wr => ∃ k : Nat, k ≤ L.length ∧ i = .int .i64 k ∧ Frm Nil w wr ∧ Col w.heap.size wr v (inF L s k)) (fun _ i _ => L.length - (intOf i).toNat)
  case atStart => exact ⟨0, Nat.zero_le _, rfl, Frm.refl _ _, Col.nil _ _⟩
  case round =>
    obtain ⟨k, hk, rfl, hfr, hcol⟩ := hrel
    by_cases hlt : k < L.length
    · have hr : CrewAt wr S c L := h.bound.move' hfr
      obtain ⟨a2, cap2, hc2, hf2, hm2, hx2⟩ := hr.cells
      obtain ⟨b, rfl, hSb, hbc, hfz, hcells2⟩ := hx2 (by omega)
      obtain ⟨_, _, hst⟩ := hcells2 k hlt
      have hll := inF_length L s k
      have hget : L[k]? = some L[k] := List.getElem?_eq_getElem hlt
      have hcomes : inF L s (k + 1) = inF L s k ++ (if L[k].state = s then [(k : Int)] else []) := by rw [inF, hget]
      obtain ⟨st, hst0⟩ : ∃ st, L[k].state = st := ⟨_, rfl⟩
      rw [hst0] at hst hcomes
      have HC := Lib.hid hcomes
      clear hcomes hcells2 hx2 hget hcells hc hst0
      by_cases hs : st = s
      · have hb0 : (st == s) = true := by simpa using hs
        have HS := Lib.hid hs
        clear hs
        go_wp2_with (at_builtin; go_must (refine col_app rfl _ _ rfl u5 _ (k : Int) rfl rfl (by simp) hcol hfr rfl (by omega) ?_); intro v1 w1 hcol1 hfr1)
        go_roundw
        case rel => exact ⟨k + 1, by omega, by go_num, hfr1, by rw [HC.out, if_pos HS.out]; exact hcol1⟩
        case measure => simp [intOf]; omega
      · have hb0 : (st == s) = false := by simpa using hs
        go_wp2
        go_roundw
        case rel => exact ⟨k + 1, by omega, by go_num, hfr, by rw [HC.out, if_neg hs, List.append_nil]; exact hcol⟩
        case measure => simp [intOf]; omega
    · go_wp2
      go_ret
      have hkn : k = L.length := by omega
      subst hkn
      obtain ⟨a3, cap3, rfl, hrd⟩ := hcol.rd
      exact ⟨a3, cap3, _, rfl, hrd, hfr⟩

set_option maxHeartbeats 400000 in
theorem crew_spawn_ok (h : CrewAt w S c L) (hL : L.length < 512) (pr : Int) (h0 : 0 ≤ pr) : Calls Try.prog 10 #[.pointer (some ⟨c, 0, none⟩), .int .i64 pr] w
    (CrewPost S c w (.tuple #[.int .i64 L.length, .int .i64 0]) (L ++ [⟨pr, 0, 0⟩])) := by
  obtain ⟨v, h1, h2, h3, h4⟩ := h
  obtain ⟨a, cap, rfl⟩ := own_form h2
  have hc := cell_of_one h1
  have hf := free_of_one h1
  go_enter Try.func10, Try.ntmps10
  go_wp2_with (at_builtin; go_must (refine app_one rfl _ _ 50 54 _ 3 24 rfl Try.underlying50 infoOne rfl (by decide) (.slice a L.length cap) L.length _ [.int .i64 pr, .int .i64 0, .int .i64 0] rfl rfl (by simp) rfl rfl h2 (by omega) (by decide) ?_); intro g' c' w1 hown hfrm hat; have hb1 := hfrm.blk h1 (fun hk => (h4 _ hk).2 rfl); have hc1 := cell_of_one hb1; have hf1 := free_of_one hb1)
  go_ret2
  have hgc : g' ≠ c := by
    rcases hat with hat | hat
    · exact (h4 _ hat).2
    · have := lt_of_block h1
      omega
  refine ⟨rfl, ⟨_, one_setCell hb1, ?_, .inl h3, fun k hk => ?_⟩, ?_⟩
  · rw [List.length_append, List.length_singleton, flat_one]
    exact own_move hown (fun k hk => Below.heap_setCell _ _ _ _ (by rintro rfl; injection hk with hk; exact hgc hk))
  · injection hk with hk
    dsimp only at hk
    subst hk
    refine ⟨?_, hgc⟩
    rcases hat with hat | hat
    · exact .inl (h4 _ hat).1
    · exact .inr ⟨hat, by simpa [World.setCell] using own_lt hown rfl⟩
  · exact ((hfrm.mono (fun k hk hs => (h4 k hs).1)).setCell (fun _ => h3) _)

set_option maxHeartbeats 400000 in
theorem crew_spawn_arg (p : Option Addr) (pr : Int) (h0 : pr < 0) (w : World) : Calls Try.prog 10 #[.pointer p, .int .i64 pr] w
    fun e w' => e = .returned (.tuple #[.int .i64 0, .int .i64 1]) ∧ w = w' := by
  go_enter Try.func10, Try.ntmps10
  go_wp2
  go_ret2
  exact ⟨rfl, rfl⟩

set_option maxHeartbeats 400000 in
theorem crew_spawn_nil (pr : Int) (h0 : 0 ≤ pr) (w : World) : Calls Try.prog 10 #[.pointer none, .int .i64 pr] w
    fun e w' => e = .returned (.tuple #[.int .i64 0, .int .i64 7]) ∧ w = w' := by
  go_enter Try.func10, Try.ntmps10
  go_wp2
  go_ret2
  exact ⟨rfl, rfl⟩

set_option maxHeartbeats 400000 in
theorem crew_spawn_full (h : CrewAt w S c L) (hL : L.length = 512) (pr : Int) (h0 : 0 ≤ pr) : Calls Try.prog 10 #[.pointer (some ⟨c, 0, none⟩), .int .i64 pr] w
    fun e w' => e = .returned (.tuple #[.int .i64 0, .int .i64 5]) ∧ w = w' := by
  obtain ⟨a, cap, hc, _, _, _⟩ := h.cells
  rw [hL] at hc
  clear hL
  go_enter Try.func10, Try.ntmps10
  go_wp2
  go_ret2
  exact ⟨rfl, rfl⟩

theorem crew_spawn (h : CrewAt w S c L) (hL : L.length ≤ 512) (pr : Int) : Calls Try.prog 10 #[.pointer (some ⟨c, 0, none⟩), .int .i64 pr] w
    (CrewPost S c w (.tuple #[.int .i64 (spawnF L pr).1.1, .int .i64 (spawnF L pr).1.2]) (spawnF L pr).2) := by
  unfold spawnF
  by_cases h0 : pr < 0
  · rw [if_pos h0]
    refine (crew_spawn_arg _ pr h0 w).mono ?_
    rintro e w' ⟨rfl, rfl⟩
    exact ⟨rfl, h.mono (fun k hk => .inl hk), Frm.refl _ _⟩
  · rw [if_neg h0]
    by_cases h1 : L.length = 512
    · rw [if_pos h1]
      refine (crew_spawn_full h h1 pr (by omega)).mono ?_
      rintro e w' ⟨rfl, rfl⟩
      exact ⟨rfl, h.mono (fun k hk => .inl hk), Frm.refl _ _⟩
    · rw [if_neg h1]
      exact crew_spawn_ok h (by omega) pr (by omega)

theorem crew_state (h : CrewAt w S c L) (g : Int) : Calls Try.prog 19 #[.pointer (some ⟨c, 0, none⟩), .int .i64 g] w
    fun e w' => e = .returned (.tuple #[.int .i64 (stateF L g).1, .bool (stateF L g).2]) ∧ w = w' := by
  by_cases hg : 0 ≤ g ∧ g < L.length
  · obtain ⟨k, rfl⟩ := Int.eq_ofNat_of_zero_le hg.1
    have hk : k < L.length := by omega
    obtain ⟨a, cap, hc, _, _, hx⟩ := h.cells
    obtain ⟨b, rfl, _, _, _, hcells⟩ := hx (by omega)
    have e : stateF L k = (L[k].state, true) := by
      unfold stateF
      rw [if_pos (by omega), Int.toNat_natCast, List.getElem?_eq_getElem hk]
    rw [e]
    exact state_some (crew_of h hc k hk) _ (hcells k hk).2.2
  · have e : stateF L g = (0, false) := by
      unfold stateF
      split
      · rw [List.getElem?_eq_none (by omega)]
      · rfl
    rw [e]
    exact state_none (crew_of_none h g hg)

theorem crew_at (h : CrewAt w S c L) (g : Int) : Calls Try.prog 17 #[.pointer (some ⟨c, 0, none⟩), .int .i64 g] w
    fun e w' => e = .returned (.tuple #[.int .i64 (atF L g).1, .int .i64 (atF L g).2.1, .bool (atF L g).2.2]) ∧ ∃ n, w' = w.drewN n := by
  by_cases hg : 0 ≤ g ∧ g < L.length
  · obtain ⟨k, rfl⟩ := Int.eq_ofNat_of_zero_le hg.1
    have hk : k < L.length := by omega
    obtain ⟨a, cap, hc, _, _, hx⟩ := h.cells
    obtain ⟨b, rfl, _, _, _, hcells⟩ := hx (by omega)
    have e : atF L k = (L[k].program, L[k].place, true) := by
      unfold atF
      rw [if_pos (by omega), Int.toNat_natCast, List.getElem?_eq_getElem hk]
    rw [e]
    exact at_some (crew_of h hc k hk) _ _ (hcells k hk).1 (hcells k hk).2.1
  · have e : atF L g = (0, 0, false) := by
      unfold atF
      split
      · rw [List.getElem?_eq_none (by omega)]
      · rfl
    rw [e]
    refine (at_none (crew_of_none h g hg)).mono ?_
    rintro e w' ⟨rfl, rfl⟩
    exact ⟨rfl, 0, rfl⟩

/-- A slice of the numbers xs comes back. -/
def Ints (w : World) (xs : List Int) : Ending → World → Prop := fun e w' => ∃ a cap n, e = .returned (.slice a n cap) ∧ Rd w' 1 a n (ints xs) ∧ Frm Nil w w'

set_option maxHeartbeats 400000 in
theorem crew_able (h : CrewAt w S c L) (hL : L.length ≤ 512) : Calls Try.prog 12 #[.pointer (some ⟨c, 0, none⟩)] w (Ints w (ableF L)) := by
  go_enter Try.func12, Try.ntmps12
  go_wp2_with (go_at_call 25; refine (crew_in h hL 0).mono ?_; rintro e w' ⟨a, cap, n, rfl, h1, h2⟩)
  go_ret
  exact ⟨a, cap, n, rfl, h1, h2⟩

set_option maxHeartbeats 400000 in
theorem crew_over (h : CrewAt w S c L) (hL : L.length ≤ 512) : Calls Try.prog 21 #[.pointer (some ⟨c, 0, none⟩)] w fun e w' => e = .returned (.int .i64 (overF L)) ∧ Frm Nil w w' := by
  unfold overF
  by_cases h0 : 0 < (ableF L).length
  · rw [if_pos h0]
    go_enter Try.func21, Try.ntmps21
    go_wp2_with (go_at_call 12; refine (crew_able h hL).mono ?_; rintro e w' ⟨a, cap, n, rfl, h1, h2⟩; have e1 := h1.int; have hn : 0 < n := by omega)
    go_ret
    exact ⟨rfl, h2⟩
  · rw [if_neg h0]
    by_cases hi : 0 < (inF L 1 L.length).length
    · rw [if_pos hi]
      go_enter Try.func21, Try.ntmps21
      go_wp2_with fail
      refine (crew_able h hL).mono ?_
      rintro e w' ⟨a, cap, n, rfl, h1, h2⟩
      have e1 := h1.int
      obtain rfl : n = 0 := by omega
      clear e1
      go_wp2_with fail
      refine (crew_in (h.bound.move' h2) hL 1).mono ?_
      rintro e w2 ⟨a2, cap2, n2, rfl, h3, h4⟩
      have e2 := h3.int
      have hn : 0 < n2 := by omega
      clear e2
      go_wp2_with fail
      go_ret
      exact ⟨rfl, h2.then h4⟩
    · rw [if_neg hi]
      go_enter Try.func21, Try.ntmps21
      go_wp2_with fail
      refine (crew_able h hL).mono ?_
      rintro e w' ⟨a, cap, n, rfl, h1, h2⟩
      have e1 := h1.int
      obtain rfl : n = 0 := by omega
      clear e1
      go_wp2_with fail
      refine (crew_in (h.bound.move' h2) hL 1).mono ?_
      rintro e w2 ⟨a2, cap2, n2, rfl, h3, h4⟩
      have e2 := h3.int
      obtain rfl : n2 = 0 := by omega
      clear e2
      go_wp2_with fail
      go_ret
      exact ⟨rfl, h2.then h4⟩

set_option maxHeartbeats 400000 in
theorem crew_in_nil (s : Int) (w : World) : Calls Try.prog 25 #[.pointer none, .int .i64 s] w fun e w' => e = .returned (.slice none 0 0) ∧ w = w' := by
  go_enter Try.func25, Try.ntmps25
  go_wp2_with (go_at_call 11; refine (crew_len_nil _).mono ?_; rintro e w' ⟨rfl, rfl⟩)
  go_loop [5, 9] (fun v i => v = .slice none 0 0 ∧ i = .int .i64 0) (fun _ _ => 0)
  case atStart => exact ⟨rfl, rfl⟩
  case round =>
    obtain ⟨rfl, rfl⟩ := hrel
    go_wp2
    go_ret
    exact ⟨rfl, rfl⟩

set_option maxHeartbeats 400000 in
theorem crew_able_nil (w : World) : Calls Try.prog 12 #[.pointer none] w fun e w' => e = .returned (.slice none 0 0) ∧ w = w' := by
  go_enter Try.func12, Try.ntmps12
  go_wp2_with (go_at_call 25; refine (crew_in_nil 0 _).mono ?_; rintro e w' ⟨rfl, rfl⟩)
  go_ret
  exact ⟨rfl, rfl⟩

set_option maxHeartbeats 400000 in
theorem crew_over_nil (w : World) : Calls Try.prog 21 #[.pointer none] w fun e w' => e = .returned (.int .i64 1) ∧ w = w' := by
  go_enter Try.func21, Try.ntmps21
  go_wp2_with (first | (go_at_call 12; refine (crew_able_nil _).mono ?_; rintro e w' ⟨rfl, rfl⟩) | (go_at_call 25; refine (crew_in_nil 1 _).mono ?_; rintro e w' ⟨rfl, rfl⟩))
  go_ret
  exact ⟨rfl, rfl⟩

/-! ## with what it comes to handed in -/
theorem spawn_eq (h : CrewAt w S c L) (hL : L.length ≤ 512) (pr a e : Int) (L' : List One) (hF : spawnF L pr = ((a, e), L')) :
    Calls Try.prog 10 #[.pointer (some ⟨c, 0, none⟩), .int .i64 pr] w (CrewPost S c w (.tuple #[.int .i64 a, .int .i64 e]) L') := by
  have := crew_spawn h hL pr
  rw [hF] at this
  exact this
theorem go_eq (h : CrewAt w S c L) (hp : Small L 100000000) (g r : Int) (L' : List One) (hF : turnF L g 0 0 1 = (r, L')) :
    Calls Try.prog 13 #[.pointer (some ⟨c, 0, none⟩), .int .i64 g] w (CrewPost S c w (.int .i64 r) L') := by
  have := crew_go h hp g
  rw [hF] at this
  exact this
theorem park_eq (h : CrewAt w S c L) (hp : Small L 100000000) (g r : Int) (L' : List One) (hF : turnF L g 0 1 0 = (r, L')) :
    Calls Try.prog 14 #[.pointer (some ⟨c, 0, none⟩), .int .i64 g] w (CrewPost S c w (.int .i64 r) L') := by
  have := crew_park h hp g
  rw [hF] at this
  exact this
theorem wake_eq (h : CrewAt w S c L) (hp : Small L 100000000) (g r : Int) (L' : List One) (hF : turnF L g 1 0 1 = (r, L')) :
    Calls Try.prog 15 #[.pointer (some ⟨c, 0, none⟩), .int .i64 g] w (CrewPost S c w (.int .i64 r) L') := by
  have := crew_wake h hp g
  rw [hF] at this
  exact this
theorem exit_eq (h : CrewAt w S c L) (hp : Small L 100000000) (g r : Int) (L' : List One) (hF : turnF L g 0 2 0 = (r, L')) :
    Calls Try.prog 16 #[.pointer (some ⟨c, 0, none⟩), .int .i64 g] w (CrewPost S c w (.int .i64 r) L') := by
  have := crew_exit h hp g
  rw [hF] at this
  exact this
theorem able_eq (h : CrewAt w S c L) (hL : L.length ≤ 512) (xs : List Int) (hF : ableF L = xs) : Calls Try.prog 12 #[.pointer (some ⟨c, 0, none⟩)] w (Ints w xs) := by
  subst hF
  exact crew_able h hL
theorem over_eq (h : CrewAt w S c L) (hL : L.length ≤ 512) (r : Int) (hF : overF L = r) : Calls Try.prog 21 #[.pointer (some ⟨c, 0, none⟩)] w fun e w' => e = .returned (.int .i64 r) ∧ Frm Nil w w' := by
  subst hF
  exact crew_over h hL
end

end Go.Proofs.Ytlfboploganglaa
