/- CrewPlaces: a goroutine's place is how often it went on, or was woken. -/
import Derived.Test.YtlfboploganglaaLaws11
namespace Go.Proofs.Ytlfboploganglaa
set_option linter.unusedVariables false
set_option linter.unusedSimpArgs false
open Go.RowKit

theorem cell_new_row {w : World} {c : Array Value} {t : TypeId} (i : Nat) : (w.alloc (.cells c t)).cell? ⟨w.heap.size, i, none⟩ = c[i]? :=
  cell_of_row _ _ i _ _ _ (heap_alloc_new w _)

/-- What a step does to a crew, and what it answers. -/
def stepF (M : List One) (s : Step) : Int × List One :=
  if s.what = 0 ∨ s.what = 1 then ((spawnF M s.g).1.2, (spawnF M s.g).2)
  else if s.what = 2 then turnF M s.g 0 0 1
  else if s.what = 3 then turnF M s.g 0 1 0
  else if s.what = 4 then turnF M s.g 1 0 1
  else if s.what = 5 then turnF M s.g 0 2 0
  else (0, M)

theorem spawnF_length (M : List One) (p : Int) : (spawnF M p).2.length ≤ M.length + 1 := by
  unfold spawnF
  split
  · simp
  · split <;> simp

theorem turnF_length (M : List One) (g a b d : Int) : (turnF M g a b d).2.length = M.length := by
  unfold turnF
  split
  · split
    · rfl
    · split <;> simp
  · rfl

theorem stepF_length (M : List One) (s : Step) : (stepF M s).2.length ≤ M.length + 1 := by
  unfold stepF
  split
  · exact spawnF_length M s.g
  · split
    · rw [turnF_length]; omega
    · split
      · rw [turnF_length]; omega
      · split
        · rw [turnF_length]; omega
        · split
          · rw [turnF_length]; omega
          · simp

theorem spawnF_small {M : List One} {N : Int} (h : Small M N) (h0 : 0 ≤ N) (p : Int) : Small (spawnF M p).2 N := by
  unfold spawnF
  split
  · exact h
  · split
    · exact h
    · intro x hx
      rcases List.mem_append.1 hx with hx | hx
      · exact h x hx
      · rw [List.mem_singleton] at hx
        subst hx
        exact ⟨Int.le_refl _, h0⟩

theorem turnF_small {M : List One} {N : Int} (h : Small M N) (g a b d : Int) (hd0 : 0 ≤ d) (hd : d ≤ 1) : Small (turnF M g a b d).2 (N + 1) := by
  have hw : Small M (N + 1) := fun x hx => ⟨(h x hx).1, by have := (h x hx).2; omega⟩
  unfold turnF
  split
  · split
    · exact hw
    · rename_i x hx
      split
      · intro y hy
        rcases List.mem_or_eq_of_mem_set hy with hy | hy
        · exact hw y hy
        · subst hy
          have := h x (List.mem_of_getElem? hx)
          exact ⟨by dsimp only; omega, by dsimp only; omega⟩
      · exact hw
  · exact hw

theorem stepF_small {M : List One} {N : Int} (h : Small M N) (h0 : 0 ≤ N) (s : Step) : Small (stepF M s).2 (N + 1) := by
  have hw : ∀ {M : List One}, Small M N → Small M (N + 1) := fun h x hx => ⟨(h x hx).1, by have := (h x hx).2; omega⟩
  unfold stepF
  split
  · exact hw (spawnF_small h h0 s.g)
  · split
    · exact turnF_small h _ _ _ _ (by omega) (by omega)
    · split
      · exact turnF_small h _ _ _ _ (by omega) (by omega)
      · split
        · exact turnF_small h _ _ _ _ (by omega) (by omega)
        · split
          · exact turnF_small h _ _ _ _ (by omega) (by omega)
          · exact hw h

/-- How often g has gone on behind a step. -/
def goesF (M : List One) (s : Step) (g : Int) : Int := if (s.what = 2 ∨ s.what = 4) ∧ (stepF M s).1 = 0 ∧ s.g = g then 1 else 0

def Tells (M : List One) (g n : Int) : Prop := ((atF M g).2.2 = true ∧ (atF M g).2.1 = n) ∨ (atF M g = (0, 0, false) ∧ n = 0)

theorem atF_some {M : List One} {k : Nat} (h : k < M.length) : atF M k = (M[k].program, M[k].place, true) := by
  unfold atF
  rw [if_pos (by omega), Int.toNat_natCast, List.getElem?_eq_getElem h]

theorem atF_none {M : List One} {g : Int} (h : ¬ (0 ≤ g ∧ g < M.length)) : atF M g = (0, 0, false) := by
  unfold atF
  split
  · rw [List.getElem?_eq_none (by omega)]
  · rfl

theorem spawn_tells {M : List One} {g n : Int} (h : Tells M g n) (p : Int) : Tells (spawnF M p).2 g n := by
  unfold spawnF
  split
  · exact h
  · split
    · exact h
    · by_cases hg : 0 ≤ g ∧ g < M.length
      · obtain ⟨k, rfl⟩ := Int.eq_ofNat_of_zero_le hg.1
        have hk : k < M.length := by omega
        rcases h with h | h
        · rw [atF_some hk] at h
          refine .inl ?_
          rw [atF_some (by simp; omega)]
          dsimp only
          rw [List.getElem_append_left hk]
          exact h
        · rw [atF_some hk] at h
          exact absurd h.1 (by simp)
      · have hn : n = 0 := by
          rcases h with h | h
          · rw [atF_none hg] at h
            exact absurd h.1 (by simp)
          · exact h.2
        by_cases he : 0 ≤ g ∧ g < (M ++ [(⟨p, 0, 0⟩ : One)]).length
        · obtain ⟨k, rfl⟩ := Int.eq_ofNat_of_zero_le he.1
          have hk : k = M.length := by simp at he; omega
          subst hk
          refine .inl ?_
          rw [atF_some (by simp)]
          simp [hn]
        · exact .inr ⟨atF_none he, hn⟩

theorem turn_tells {M : List One} {g n : Int} (h : Tells M g n) (g' a b d : Int) :
    Tells (turnF M g' a b d).2 g (n + if (turnF M g' a b d).1 = 0 ∧ g' = g then d else 0) := by
  have hstay : ∀ r, r ≠ (0 : Int) → Tells M g (n + if r = 0 ∧ g' = g then d else 0) := fun r hr => by
    rw [if_neg (by intro h; exact hr h.1), Int.add_zero]
    exact h
  unfold turnF
  split
  · split
    · exact hstay 6 (by decide)
    · rename_i h0 _ x hx
      split
      · obtain ⟨j, rfl⟩ := Int.eq_ofNat_of_zero_le h0
        rw [Int.toNat_natCast] at hx ⊢
        obtain ⟨hj, rfl⟩ := List.getElem?_eq_some_iff.1 hx
        dsimp only
        by_cases hgj : (j : Int) = g
        · subst hgj
          rw [if_pos ⟨rfl, rfl⟩]
          rcases h with h | h
          · rw [atF_some hj] at h
            refine .inl ?_
            rw [atF_some (by simp; exact hj)]
            simp only [List.getElem_set_self]
            exact ⟨trivial, by have := h.2; dsimp only at this; omega⟩
          · rw [atF_some hj] at h
            exact absurd h.1 (by simp)
        · rw [if_neg (by intro h; exact hgj h.2), Int.add_zero]
          by_cases hg : 0 ≤ g ∧ g < M.length
          · obtain ⟨k, rfl⟩ := Int.eq_ofNat_of_zero_le hg.1
            have hk : k < M.length := by omega
            rcases h with h | h
            · rw [atF_some hk] at h
              refine .inl ?_
              rw [atF_some (by simp; exact hk)]
              rw [List.getElem_set_ne (by omega)]
              exact h
            · rw [atF_some hk] at h
              exact absurd h.1 (by simp)
          · rcases h with h | h
            · rw [atF_none hg] at h
              exact absurd h.1 (by simp)
            · exact .inr ⟨atF_none (by simpa using hg), h.2⟩
      · exact hstay 7 (by decide)
  · exact hstay 6 (by decide)

theorem step_tells {M : List One} {g n : Int} (h : Tells M g n) (s : Step) : Tells (stepF M s).2 g (n + goesF M s g) := by
  unfold goesF stepF
  by_cases h01 : s.what = 0 ∨ s.what = 1
  · rw [if_pos h01, if_neg (by omega), Int.add_zero]
    exact spawn_tells h s.g
  · rw [if_neg h01]
    by_cases h2 : s.what = 2
    · simp only [h2, if_true, true_or, true_and]
      exact turn_tells h s.g 0 0 1
    · by_cases h3 : s.what = 3
      · have := turn_tells h s.g 0 1 0
        simp only [h3]
        simpa using this
      · by_cases h4 : s.what = 4
        · have := turn_tells h s.g 1 0 1
          simp only [h4]
          simpa using this
        · by_cases h5 : s.what = 5
          · have := turn_tells h s.g 0 2 0
            simp only [h5]
            simpa using this
          · rw [if_neg h2, if_neg h3, if_neg h4, if_neg h5, if_neg (by omega), Int.add_zero]
            exact h

theorem at_eq {w : World} {S : Nat → Prop} {c : Nat} {L : List One} (h : CrewAt w S c L) (g pr pl : Int) (t : Bool) (hF : atF L g = (pr, pl, t)) :
    Calls Try.prog 17 #[.pointer (some ⟨c, 0, none⟩), .int .i64 g] w
      fun e w' => e = .returned (.tuple #[.int .i64 pr, .int .i64 pl, .bool t]) ∧ CrewAt w' S c L ∧ Frm Nil w w' := by
  have := crew_at h g
  rw [hF] at this
  refine this.mono ?_
  rintro e w' ⟨he, n, rfl⟩
  exact ⟨he, h.move (fun _ _ => rfl), (Frm.refl _ _).drewN _⟩

/-- Where At's answer fits the count, in the spelling of the law's test. -/
theorem tells_cases {M : List One} {g n : Int} (h : Tells M g n) : (∃ pr, atF M g = (pr, n, true)) ∨ (atF M g = (0, 0, false) ∧ n = 0) := by
  rcases h with ⟨h1, h2⟩ | h
  · exact .inl ⟨(atF M g).1, by rw [← h1, ← h2]⟩
  · exact .inr h

set_option maxHeartbeats 400000 in
theorem crewPlaces_out {a : Option Addr} {cap n : Nat} (hl : 300 < n) (hm : n ≤ 9223372036854775807) (g : Int) (w : World) :
    Calls Try.prog 4 #[.slice a n cap, .int .i64 g] w (Yes w) := by
  go_enter Try.func4, Try.ntmps4
  go_wp2_with fail
  refine (crew_new w).mono ?_
  rintro e w1 ⟨c, rfl, h1', f1⟩
  go_wp2_with fail
  refine (two_any w1).mono ?_
  rintro e w2 ⟨rfl, f2⟩
  go_wp2_with fail
  go_ret
  exact ⟨rfl, f1.then f2⟩

set_option maxRecDepth 100000 in
set_option maxHeartbeats 1000000 in
theorem crewPlaces_in {a : Option Addr} {cap : Nat} {L : List Step} {w : World} (hl : L.length ≤ 300) (hrd : Rd w 2 a L.length (L.flatMap Step.cells)) (g : Int) :
    Calls Try.prog 4 #[.slice a L.length cap, .int .i64 g] w (Yes w) := by
  go_enter Try.func4, Try.ntmps4
  go_wp2_with fail
  refine (crew_new w).mono ?_
  rintro e w1 ⟨c, rfl, h1', f1⟩
  go_wp2_with fail
  go_loopw [6, 27] (fun n i wr => ∃ (k : Nat) (m : Int) (M : List One), k ≤ L.length ∧ 0 ≤ m ∧ m ≤ k ∧ i = .int .i64 k ∧ n = .int .i64 m ∧ Frm Nil w wr ∧ (∃ S, Zone w.heap.size wr S ∧ CrewAt wr S c M ∧ M.length ≤ k ∧ Small M k ∧ Tells M g m)) (fun _ i _ => L.length - (intOf i).toNat)
  case atStart => exact ⟨0, 0, [], Nat.zero_le _, Int.le_refl _, Int.le_refl _, rfl, rfl, f1, _, Zone.first f1, h1', Nat.le_refl _, fun x hx => (by cases hx), .inr ⟨atF_none (by simp), rfl⟩⟩
  case round =>
    obtain ⟨k, m, M, hk, hm0, hmk, rfl, rfl, hfr, S, hz, hc, hMl, hMs, hT⟩ := hrel
    by_cases hlt : k < L.length
    · obtain ⟨b, off, rfl, hb, hcells⟩ := step_at hrd (by omega)
      obtain ⟨c1, c2⟩ := hcells k hlt
      rw [← hfr.cell (p := ⟨b, off + k * 2, none⟩) hb id] at c1
      rw [← hfr.cell (p := ⟨b, off + k * 2 + 1, none⟩) hb id] at c2
      obtain ⟨s, hs⟩ : ∃ s, L[k] = s := ⟨_, rfl⟩
      rw [hs] at c1 c2
      have hT' := step_tells hT s
      have hl' := stepF_length M s
      have hs' := stepF_small hMs (by omega) s
      obtain ⟨M', hM'⟩ : ∃ M', (stepF M s).2 = M' := ⟨_, rfl⟩
      obtain ⟨r, hr⟩ : ∃ r, (stepF M s).1 = r := ⟨_, rfl⟩
      obtain ⟨m', hm'⟩ : ∃ m', m + goesF M s g = m' := ⟨_, rfl⟩
      obtain ⟨what, sg⟩ := s
      rw [hM'] at hl' hs' hT'
      rw [hm'] at hT'
      clear hcells hs
      have hfrA : Frm Nil w (wr.alloc (.cells #[.int .i64 what, .int .i64 sg] 34)) := hfr.alloc _
      have hgo := hm'
      unfold goesF at hgo
      rw [hr] at hgo
      dsimp only at hgo
      have hb1 : m ≤ m' ∧ m' ≤ k + 1 := by split at hgo <;> omega
      have hsplit : what = 0 ∨ what = 1 ∨ what = 2 ∨ what = 3 ∨ what = 4 ∨ what = 5 ∨ (what ≠ 0 ∧ what ≠ 1 ∧ what ≠ 2 ∧ what ≠ 3 ∧ what ≠ 4 ∧ what ≠ 5) := by omega
      rcases hsplit with hw | hw | hw | hw | hw | hw | ⟨h0, h1, h2, h3, h4, h5⟩
      · subst hw
        have hF : spawnF M sg = (((spawnF M sg).1.1, r), M') := by
          rw [← hr, ← hM']
          simp [stepF]
        have HF := Lib.hid hF
        obtain ⟨q, hq⟩ : ∃ q, (spawnF M sg).1.1 = q := ⟨_, rfl⟩
        rw [hq] at HF
        have hmm : m' = m := by simpa using hgo.symm
        subst hmm
        clear hF hq hM' hr hgo hm'
        go_wp2_with fail
        refine (spawn_eq (hc.alloc _) (by omega) sg q r M' HF.out).mono ?_
        rintro e w2 ⟨rfl, h3, f3⟩
        have h4 := h3
        have hz4 := (hz.alloc _).step f3 hfrA.size
        have f4 := hfrA.zone (hz.alloc _) f3
        clear h3 f3
        go_wp2_with fail
        rcases tells_cases hT' with ⟨pr, hA⟩ | ⟨hA, hz⟩
        · have HA := Lib.hid hA
          clear hA
          refine (at_eq h4 g _ _ _ HA.out).mono ?_
          rintro e w3 ⟨rfl, h5, f5⟩
          go_wp2_with fail
          go_roundw
          case rel => exact ⟨k + 1, _, M', by omega, by omega, by omega, by go_num, rfl, f4.then f5, _, hz4.later f5, h5, by omega, hs', hT'⟩
          case measure => simp [intOf]; omega
        · have HA := Lib.hid hA
          clear hA
          have hz0 : (m' != 0) = false := by simp [hz]
          have HZ := Lib.hid hz
          clear hz
          refine (at_eq h4 g _ _ _ HA.out).mono ?_
          rintro e w3 ⟨rfl, h5, f5⟩
          go_wp2_with fail
          go_roundw
          case rel => exact ⟨k + 1, _, M', by omega, by omega, by omega, by go_num, rfl, f4.then f5, _, hz4.later f5, h5, by omega, hs', hT'⟩
          case measure => simp [intOf]; omega
      · subst hw
        have hF : spawnF M sg = (((spawnF M sg).1.1, r), M') := by
          rw [← hr, ← hM']
          simp [stepF]
        have HF := Lib.hid hF
        obtain ⟨q, hq⟩ : ∃ q, (spawnF M sg).1.1 = q := ⟨_, rfl⟩
        rw [hq] at HF
        have hmm : m' = m := by simpa using hgo.symm
        subst hmm
        clear hF hq hM' hr hgo hm'
        go_wp2_with fail
        refine (spawn_eq (hc.alloc _) (by omega) sg q r M' HF.out).mono ?_
        rintro e w2 ⟨rfl, h3, f3⟩
        have h4 := h3
        have hz4 := (hz.alloc _).step f3 hfrA.size
        have f4 := hfrA.zone (hz.alloc _) f3
        clear h3 f3
        go_wp2_with fail
        rcases tells_cases hT' with ⟨pr, hA⟩ | ⟨hA, hz⟩
        · have HA := Lib.hid hA
          clear hA
          refine (at_eq h4 g _ _ _ HA.out).mono ?_
          rintro e w3 ⟨rfl, h5, f5⟩
          go_wp2_with fail
          go_roundw
          case rel => exact ⟨k + 1, _, M', by omega, by omega, by omega, by go_num, rfl, f4.then f5, _, hz4.later f5, h5, by omega, hs', hT'⟩
          case measure => simp [intOf]; omega
        · have HA := Lib.hid hA
          clear hA
          have hz0 : (m' != 0) = false := by simp [hz]
          have HZ := Lib.hid hz
          clear hz
          refine (at_eq h4 g _ _ _ HA.out).mono ?_
          rintro e w3 ⟨rfl, h5, f5⟩
          go_wp2_with fail
          go_roundw
          case rel => exact ⟨k + 1, _, M', by omega, by omega, by omega, by go_num, rfl, f4.then f5, _, hz4.later f5, h5, by omega, hs', hT'⟩
          case measure => simp [intOf]; omega
      · subst hw
        have hF : turnF M sg 0 0 1 = (r, M') := by
          rw [← hr, ← hM']
          simp [stepF]
        have HF := Lib.hid hF
        clear hF hM' hr hm'
        by_cases hrg : r = 0 ∧ sg = g
        · obtain ⟨rfl, rfl⟩ := hrg
          have hmm : m + 1 = m' := by simpa using hgo
          have HM := Lib.hid hmm
          clear hmm hgo
          go_wp2_with fail
          refine (go_eq (hc.alloc _) (fun x hx => ⟨(hMs x hx).1, by have := (hMs x hx).2; omega⟩) sg 0 M' HF.out).mono ?_
          rintro e w2 ⟨rfl, h3, f3⟩
          have hbx : w2.cell? ⟨wr.heap.size, 1, none⟩ = some (.int .i64 sg) := f3.out (cell_new_row 1) (fun h => Nat.lt_irrefl _ (hz.hi _ h))
          rw [← HM.out] at hT'
          have hb2 : (m + 1) ≤ k + 1 := by omega
          clear HM hb1 m'
          obtain ⟨m', hm'⟩ : ∃ m', m' = m + 1 := ⟨_, rfl⟩
          have h4 := h3
          have hz4 := (hz.alloc _).step f3 hfrA.size
          have f4 := hfrA.zone (hz.alloc _) f3
          clear h3 f3
          go_wp2_with fail
          rcases tells_cases hT' with ⟨pr, hA⟩ | ⟨hA, hz⟩
          · have HA := Lib.hid hA
            clear hA hm' m'
            refine (at_eq h4 sg _ _ _ HA.out).mono ?_
            rintro e w3 ⟨rfl, h5, f5⟩
            go_wp2_with fail
            go_roundw
            case rel => exact ⟨k + 1, _, M', by omega, by omega, by omega, by go_num, rfl, f4.then f5, _, hz4.later f5, h5, by omega, hs', hT'⟩
            case measure => simp [intOf]; omega
          · omega
        · have hmm : m' = m := by
            rw [if_neg (by intro h; exact hrg h.2)] at hgo
            omega
          subst hmm
          clear hgo
          have hrb : ((r == 0) && (sg == g)) = false := by
            by_cases h0 : r = 0
            · have : sg ≠ g := fun h => hrg ⟨h0, h⟩
              simp [this]
            · simp [h0]
          clear hrg
          have hcases : (r == 0) = false ∨ ((r == 0) = true ∧ (sg == g) = false) := by
            cases hx : (r == 0)
            · exact .inl rfl
            · rw [hx] at hrb
              exact .inr ⟨rfl, by simpa using hrb⟩
          clear hrb
          go_wp2_with fail
          refine (go_eq (hc.alloc _) (fun x hx => ⟨(hMs x hx).1, by have := (hMs x hx).2; omega⟩) sg r M' HF.out).mono ?_
          rintro e w2 ⟨rfl, h3, f3⟩
          have hbx : w2.cell? ⟨wr.heap.size, 1, none⟩ = some (.int .i64 sg) := f3.out (cell_new_row 1) (fun h => Nat.lt_irrefl _ (hz.hi _ h))
          rcases hcases with hx | ⟨hx, hy⟩
          all_goals
            have h4 := h3
            have hz4 := (hz.alloc _).step f3 hfrA.size
            have f4 := hfrA.zone (hz.alloc _) f3
            clear h3 f3
            go_wp2_with fail
            rcases tells_cases hT' with ⟨pr, hA⟩ | ⟨hA, hz⟩
            · have HA := Lib.hid hA
              clear hA
              refine (at_eq h4 g _ _ _ HA.out).mono ?_
              rintro e w3 ⟨rfl, h5, f5⟩
              go_wp2_with fail
              go_roundw
              case rel => exact ⟨k + 1, _, M', by omega, by omega, by omega, by go_num, rfl, f4.then f5, _, hz4.later f5, h5, by omega, hs', hT'⟩
              case measure => simp [intOf]; omega
            · have HA := Lib.hid hA
              clear hA
              have hz0 : (m' != 0) = false := by simp [hz]
              have HZ := Lib.hid hz
              clear hz
              refine (at_eq h4 g _ _ _ HA.out).mono ?_
              rintro e w3 ⟨rfl, h5, f5⟩
              go_wp2_with fail
              go_roundw
              case rel => exact ⟨k + 1, _, M', by omega, by omega, by omega, by go_num, rfl, f4.then f5, _, hz4.later f5, h5, by omega, hs', hT'⟩
              case measure => simp [intOf]; omega
      · subst hw
        have hF : turnF M sg 0 1 0 = (r, M') := by
          rw [← hr, ← hM']
          simp [stepF]
        have HF := Lib.hid hF
        have hmm : m' = m := by simpa using hgo.symm
        subst hmm
        clear hF hM' hr hgo hm'
        go_wp2_with fail
        refine (park_eq (hc.alloc _) (fun x hx => ⟨(hMs x hx).1, by have := (hMs x hx).2; omega⟩) sg r M' HF.out).mono ?_
        rintro e w2 ⟨rfl, h3, f3⟩
        have h4 := h3
        have hz4 := (hz.alloc _).step f3 hfrA.size
        have f4 := hfrA.zone (hz.alloc _) f3
        clear h3 f3
        go_wp2_with fail
        rcases tells_cases hT' with ⟨pr, hA⟩ | ⟨hA, hz⟩
        · have HA := Lib.hid hA
          clear hA
          refine (at_eq h4 g _ _ _ HA.out).mono ?_
          rintro e w3 ⟨rfl, h5, f5⟩
          go_wp2_with fail
          go_roundw
          case rel => exact ⟨k + 1, _, M', by omega, by omega, by omega, by go_num, rfl, f4.then f5, _, hz4.later f5, h5, by omega, hs', hT'⟩
          case measure => simp [intOf]; omega
        · have HA := Lib.hid hA
          clear hA
          have hz0 : (m' != 0) = false := by simp [hz]
          have HZ := Lib.hid hz
          clear hz
          refine (at_eq h4 g _ _ _ HA.out).mono ?_
          rintro e w3 ⟨rfl, h5, f5⟩
          go_wp2_with fail
          go_roundw
          case rel => exact ⟨k + 1, _, M', by omega, by omega, by omega, by go_num, rfl, f4.then f5, _, hz4.later f5, h5, by omega, hs', hT'⟩
          case measure => simp [intOf]; omega
      · subst hw
        have hF : turnF M sg 1 0 1 = (r, M') := by
          rw [← hr, ← hM']
          simp [stepF]
        have HF := Lib.hid hF
        clear hF hM' hr hm'
        by_cases hrg : r = 0 ∧ sg = g
        · obtain ⟨rfl, rfl⟩ := hrg
          have hmm : m + 1 = m' := by simpa using hgo
          have HM := Lib.hid hmm
          clear hmm hgo
          go_wp2_with fail
          refine (wake_eq (hc.alloc _) (fun x hx => ⟨(hMs x hx).1, by have := (hMs x hx).2; omega⟩) sg 0 M' HF.out).mono ?_
          rintro e w2 ⟨rfl, h3, f3⟩
          have hbx : w2.cell? ⟨wr.heap.size, 1, none⟩ = some (.int .i64 sg) := f3.out (cell_new_row 1) (fun h => Nat.lt_irrefl _ (hz.hi _ h))
          rw [← HM.out] at hT'
          have hb2 : (m + 1) ≤ k + 1 := by omega
          clear HM hb1 m'
          obtain ⟨m', hm'⟩ : ∃ m', m' = m + 1 := ⟨_, rfl⟩
          have h4 := h3
          have hz4 := (hz.alloc _).step f3 hfrA.size
          have f4 := hfrA.zone (hz.alloc _) f3
          clear h3 f3
          go_wp2_with fail
          rcases tells_cases hT' with ⟨pr, hA⟩ | ⟨hA, hz⟩
          · have HA := Lib.hid hA
            clear hA hm' m'
            refine (at_eq h4 sg _ _ _ HA.out).mono ?_
            rintro e w3 ⟨rfl, h5, f5⟩
            go_wp2_with fail
            go_roundw
            case rel => exact ⟨k + 1, _, M', by omega, by omega, by omega, by go_num, rfl, f4.then f5, _, hz4.later f5, h5, by omega, hs', hT'⟩
            case measure => simp [intOf]; omega
          · omega
        · have hmm : m' = m := by
            rw [if_neg (by intro h; exact hrg h.2)] at hgo
            omega
          subst hmm
          clear hgo
          have hrb : ((r == 0) && (sg == g)) = false := by
            by_cases h0 : r = 0
            · have : sg ≠ g := fun h => hrg ⟨h0, h⟩
              simp [this]
            · simp [h0]
          clear hrg
          have hcases : (r == 0) = false ∨ ((r == 0) = true ∧ (sg == g) = false) := by
            cases hx : (r == 0)
            · exact .inl rfl
            · rw [hx] at hrb
              exact .inr ⟨rfl, by simpa using hrb⟩
          clear hrb
          go_wp2_with fail
          refine (wake_eq (hc.alloc _) (fun x hx => ⟨(hMs x hx).1, by have := (hMs x hx).2; omega⟩) sg r M' HF.out).mono ?_
          rintro e w2 ⟨rfl, h3, f3⟩
          have hbx : w2.cell? ⟨wr.heap.size, 1, none⟩ = some (.int .i64 sg) := f3.out (cell_new_row 1) (fun h => Nat.lt_irrefl _ (hz.hi _ h))
          rcases hcases with hx | ⟨hx, hy⟩
          all_goals
            have h4 := h3
            have hz4 := (hz.alloc _).step f3 hfrA.size
            have f4 := hfrA.zone (hz.alloc _) f3
            clear h3 f3
            go_wp2_with fail
            rcases tells_cases hT' with ⟨pr, hA⟩ | ⟨hA, hz⟩
            · have HA := Lib.hid hA
              clear hA
              refine (at_eq h4 g _ _ _ HA.out).mono ?_
              rintro e w3 ⟨rfl, h5, f5⟩
              go_wp2_with fail
              go_roundw
              case rel => exact ⟨k + 1, _, M', by omega, by omega, by omega, by go_num, rfl, f4.then f5, _, hz4.later f5, h5, by omega, hs', hT'⟩
              case measure => simp [intOf]; omega
            · have HA := Lib.hid hA
              clear hA
              have hz0 : (m' != 0) = false := by simp [hz]
              have HZ := Lib.hid hz
              clear hz
              refine (at_eq h4 g _ _ _ HA.out).mono ?_
              rintro e w3 ⟨rfl, h5, f5⟩
              go_wp2_with fail
              go_roundw
              case rel => exact ⟨k + 1, _, M', by omega, by omega, by omega, by go_num, rfl, f4.then f5, _, hz4.later f5, h5, by omega, hs', hT'⟩
              case measure => simp [intOf]; omega
      · subst hw
        have hF : turnF M sg 0 2 0 = (r, M') := by
          rw [← hr, ← hM']
          simp [stepF]
        have HF := Lib.hid hF
        have hmm : m' = m := by simpa using hgo.symm
        subst hmm
        clear hF hM' hr hgo hm'
        go_wp2_with fail
        refine (exit_eq (hc.alloc _) (fun x hx => ⟨(hMs x hx).1, by have := (hMs x hx).2; omega⟩) sg r M' HF.out).mono ?_
        rintro e w2 ⟨rfl, h3, f3⟩
        have h4 := h3
        have hz4 := (hz.alloc _).step f3 hfrA.size
        have f4 := hfrA.zone (hz.alloc _) f3
        clear h3 f3
        go_wp2_with fail
        rcases tells_cases hT' with ⟨pr, hA⟩ | ⟨hA, hz⟩
        · have HA := Lib.hid hA
          clear hA
          refine (at_eq h4 g _ _ _ HA.out).mono ?_
          rintro e w3 ⟨rfl, h5, f5⟩
          go_wp2_with fail
          go_roundw
          case rel => exact ⟨k + 1, _, M', by omega, by omega, by omega, by go_num, rfl, f4.then f5, _, hz4.later f5, h5, by omega, hs', hT'⟩
          case measure => simp [intOf]; omega
        · have HA := Lib.hid hA
          clear hA
          have hz0 : (m' != 0) = false := by simp [hz]
          have HZ := Lib.hid hz
          clear hz
          refine (at_eq h4 g _ _ _ HA.out).mono ?_
          rintro e w3 ⟨rfl, h5, f5⟩
          go_wp2_with fail
          go_roundw
          case rel => exact ⟨k + 1, _, M', by omega, by omega, by omega, by go_num, rfl, f4.then f5, _, hz4.later f5, h5, by omega, hs', hT'⟩
          case measure => simp [intOf]; omega
      · have hF : (0, M) = (r, M') := by
          rw [← hr, ← hM']
          simp [stepF, h0, h1, h2, h3, h4, h5]
        injection hF with e1 e2
        have e3 := e2.symm
        subst e3
        have hmm : m' = m := by
          rw [if_neg (by intro h; rcases h.1 with h | h; exact h2 h; exact h4 h)] at hgo
          omega
        subst hmm
        have b0 : (what == 0) = false := by simpa using h0
        have b1 : (what == 1) = false := by simpa using h1
        have b2 : (what == 2) = false := by simpa using h2
        have b3 : (what == 3) = false := by simpa using h3
        have b4 : (what == 4) = false := by simpa using h4
        have b5 : (what == 5) = false := by simpa using h5
        clear hM' hr hgo hm' h0 h1 h2 h3 h4 h5 e1
        have h4 := hc.alloc (.cells #[.int .i64 what, .int .i64 sg] 34)
        have f4 := hfrA
        have hz4 := hz.alloc (.cells #[.int .i64 what, .int .i64 sg] 34)
        go_wp2_with fail
        rcases tells_cases hT' with ⟨pr, hA⟩ | ⟨hA, hz⟩
        · have HA := Lib.hid hA
          clear hA
          refine (at_eq h4 g _ _ _ HA.out).mono ?_
          rintro e w3 ⟨rfl, h5, f5⟩
          go_wp2_with fail
          go_roundw
          case rel => exact ⟨k + 1, _, M', by omega, by omega, by omega, by go_num, rfl, f4.then f5, _, hz4.later f5, h5, by omega, hs', hT'⟩
          case measure => simp [intOf]; omega
        · have HA := Lib.hid hA
          clear hA
          have hz0 : (m' != 0) = false := by simp [hz]
          have HZ := Lib.hid hz
          clear hz
          refine (at_eq h4 g _ _ _ HA.out).mono ?_
          rintro e w3 ⟨rfl, h5, f5⟩
          go_wp2_with fail
          go_roundw
          case rel => exact ⟨k + 1, _, M', by omega, by omega, by omega, by go_num, rfl, f4.then f5, _, hz4.later f5, h5, by omega, hs', hT'⟩
          case measure => simp [intOf]; omega
    · go_wp2_with fail
      refine (two_any wr).mono ?_
      rintro e w2 ⟨rfl, f2⟩
      go_wp2_with fail
      go_ret
      exact ⟨rfl, hfr.then f2⟩

theorem crewPlaces_walk {v : Value} {L : List Step} {w : World} (hv : ArgSteps w v L) (g : Int) (_ : (Lit.int .i64 g).wf = true) :
    Calls Try.prog 4 #[v, .int .i64 g] w (Yes w) := by
  obtain ⟨a, cap, rfl, hrd⟩ := hv
  have hm := hrd.2.1
  unfold maxLen at hm
  by_cases hl : 300 < L.length
  · exact crewPlaces_out hl (by omega) g w
  · exact crewPlaces_in (by omega) hrd g

end Go.Proofs.Ytlfboploganglaa
