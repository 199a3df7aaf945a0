/- Layer 11, crew: what each method does to a crew, said of lists. -/
import Derived.Test.YtlfboploganglaaBase
namespace Go.Proofs.Ytlfboploganglaa
set_option linter.unusedVariables false
set_option linter.unusedSimpArgs false
open Go.RowKit

structure One where
  program : Int
  place : Int
  state : Int
  deriving DecidableEq

def One.cells (x : One) : List Value := [.int .i64 x.program, .int .i64 x.place, .int .i64 x.state]
theorem One.cells_length (x : One) : x.cells.length = 3 := rfl

theorem ones_set : ∀ (L : List One) (g : Nat) (x : One), g < L.length →
    (L.set g x).flatMap One.cells = ((((L.flatMap One.cells).set (g * 3) (.int .i64 x.program)).set (g * 3 + 1) (.int .i64 x.place))).set (g * 3 + 2) (.int .i64 x.state)
  | [], _, _, h => absurd h (Nat.not_lt_zero _)
  | y :: l, 0, x, _ => by simp [One.cells]
  | y :: l, g + 1, x, h => by
    rw [List.set_cons_succ, List.flatMap_cons, List.flatMap_cons, ones_set l g x (by simpa using h)]
    rw [show (g + 1) * 3 = y.cells.length + g * 3 from by rw [One.cells_length]; omega]
    simp only [Nat.add_assoc]
    simp [List.set_append_right]

theorem set_same {l : List Value} {i : Nat} {v : Value} (h : l[i]? = some v) : l.set i v = l := by
  obtain ⟨hi, rfl⟩ := List.getElem?_eq_some_iff.1 h
  exact List.set_getElem_self hi

/-- Block c (of type tc) is a struct with a slice of goroutines L (of type te), all whose blocks are of S. -/
def OnesAt (tc te : Nat) (w : World) (S : Nat → Prop) (c : Nat) (L : List One) : Prop :=
  ∃ v, w.heap[c]? = some (.cells #[v] tc (0, 0)) ∧ w.ownsRow 0 te 3 v L.length (L.flatMap One.cells) ∧ S c ∧ ∀ k, v.ownBlock = some k → S k ∧ k ≠ c

/-- A crew. -/
abbrev CrewAt := OnesAt 52 54

theorem OnesAt.move {tc te : Nat} {w w' : World} {S : Nat → Prop} {c : Nat} {L : List One} (h : OnesAt tc te w S c L) (hm : ∀ k, S k → w'.heap[k]? = w.heap[k]?) : OnesAt tc te w' S c L := by
  obtain ⟨v, h1, h2, h3, h4⟩ := h
  exact ⟨v, (hm c h3).trans h1, own_move h2 (fun k hk => hm k (h4 k hk).1), h3, h4⟩

theorem OnesAt.mono {tc te : Nat} {w : World} {S T : Nat → Prop} {c : Nat} {L : List One} (h : OnesAt tc te w S c L) (hm : ∀ k, S k → T k) : OnesAt tc te w T c L := by
  obtain ⟨v, h1, h2, h3, h4⟩ := h
  exact ⟨v, h1, h2, hm c h3, fun k hk => ⟨hm k (h4 k hk).1, (h4 k hk).2⟩⟩

theorem OnesAt.bound {tc te : Nat} {w : World} {S : Nat → Prop} {c : Nat} {L : List One} (h : OnesAt tc te w S c L) : OnesAt tc te w (fun k => S k ∧ k < w.heap.size) c L := by
  obtain ⟨v, h1, h2, h3, h4⟩ := h
  exact ⟨v, h1, h2, ⟨h3, lt_of_block h1⟩, fun k hk => ⟨⟨(h4 k hk).1, own_lt h2 hk⟩, (h4 k hk).2⟩⟩

theorem OnesAt.move' {tc te : Nat} {w w' : World} {S : Nat → Prop} {c : Nat} {L : List One} (h : OnesAt tc te w (fun k => S k ∧ k < w.heap.size) c L) (hf : Frm Nil w w') : OnesAt tc te w' S c L :=
  (h.move (fun k hk => hf.block k hk.2 id)).mono (fun _ hk => hk.1)

theorem OnesAt.alloc {tc te : Nat} {w : World} {S : Nat → Prop} {c : Nat} {L : List One} (h : OnesAt tc te w S c L) (o : Obj) : OnesAt tc te (w.alloc o) S c L := h.bound.move' ((Frm.refl Nil w).alloc o)

/-- What it gives to a walk. -/
theorem OnesAt.cells {tc te : Nat} {w : World} {S : Nat → Prop} {c : Nat} {L : List One} (h : OnesAt tc te w S c L) :
    ∃ a cap, w.cell? ⟨c, 0, none⟩ = some (.slice a L.length cap) ∧ w.frozen? ⟨c, 0, none⟩ = false ∧ L.length ≤ maxLen ∧
      (0 < L.length → ∃ b, a = some ⟨b, 0, none⟩ ∧ S b ∧ b ≠ c ∧ (∀ j, w.frozen? ⟨b, j, none⟩ = false) ∧
        ∀ g (hg : g < L.length), w.cell? ⟨b, g * 3, none⟩ = some (.int .i64 L[g].program) ∧ w.cell? ⟨b, g * 3 + 1, none⟩ = some (.int .i64 L[g].place) ∧ w.cell? ⟨b, g * 3 + 2, none⟩ = some (.int .i64 L[g].state)) := by
  obtain ⟨v, h1, h2, h3, h4⟩ := h
  obtain ⟨a, cap, rfl⟩ := own_form h2
  refine ⟨a, cap, cell_of_one h1, free_of_one h1, own_max h2, fun hn => ?_⟩
  obtain ⟨b, rfl⟩ := own_some h2 hn
  refine ⟨b, rfl, (h4 b rfl).1, (h4 b rfl).2, fun j => h2.frozenAt j, fun g hg => ?_⟩
  have key : ∀ j, j < 3 → w.cell? ⟨b, g * 3 + j, none⟩ = (L[g].cells)[j]? := fun j hj => by
    rw [h2.cellAt (g * 3 + j) (by omega), flat_get One.cells 3 One.cells_length L g j hj hg]
  exact ⟨key 0 (by omega), key 1 (by omega), key 2 (by omega)⟩

theorem OnesAt.stored {tc te : Nat} {w : World} {S : Nat → Prop} {c b : Nat} {cap : Nat} {L : List One} (h : OnesAt tc te w S c L) (hc : w.cell? ⟨c, 0, none⟩ = some (.slice (some ⟨b, 0, none⟩) L.length cap)) (g : Nat) (hg : g < L.length) (pl st : Int) :
    OnesAt tc te ((w.setCell ⟨b, g * 3 + 2, none⟩ (.int .i64 st)).setCell ⟨b, g * 3 + 1, none⟩ (.int .i64 pl)) S c (L.set g ⟨L[g].program, pl, st⟩) := by
  obtain ⟨v, h1, h2, h3, h4⟩ := h
  rw [cell_of_one h1] at hc
  injection hc with hc
  subst hc
  have hne : c ≠ b := (h4 b rfl).2.symm
  refine ⟨_, ?_, ?_, h3, h4⟩
  · rw [Below.heap_setCell _ _ _ _ hne, Below.heap_setCell _ _ _ _ hne]
    exact h1
  · have h5 := ((h2.stored (g * 3 + 2) (.int .i64 st)).1.stored (g * 3 + 1) (.int .i64 pl)).1
    rw [List.length_set]
    have e : (L.set g ⟨L[g].program, pl, st⟩).flatMap One.cells = ((L.flatMap One.cells).set (g * 3 + 2) (.int .i64 st)).set (g * 3 + 1) (.int .i64 pl) := by
      rw [ones_set L g _ hg, List.set_comm _ _ (by omega)]
      congr 2
      have h0 := flat_get One.cells 3 One.cells_length L g 0 (by omega) hg
      rw [Nat.add_zero] at h0
      apply List.ext_getElem?
      intro i
      rw [List.getElem?_set]
      split
      · rename_i hi
        subst hi
        rw [h0]
        split
        · rfl
        · rename_i hlt
          rw [List.getElem?_eq_none (by omega)] at h0
          simp [One.cells] at h0
      · rfl
    rw [e]
    exact h5

theorem OnesAt.stored1 {tc te : Nat} {w : World} {S : Nat → Prop} {c b : Nat} {cap : Nat} {L : List One} (h : OnesAt tc te w S c L) (hc : w.cell? ⟨c, 0, none⟩ = some (.slice (some ⟨b, 0, none⟩) L.length cap)) (g : Nat) (hg : g < L.length) (st : Int) :
    OnesAt tc te (w.setCell ⟨b, g * 3 + 2, none⟩ (.int .i64 st)) S c (L.set g ⟨L[g].program, L[g].place, st⟩) := by
  have h0 := h
  obtain ⟨v, h1, h2, h3, h4⟩ := h
  have hc' := hc
  rw [cell_of_one h1] at hc
  injection hc with hc
  subst hc
  have hne : c ≠ b := (h4 b rfl).2.symm
  refine ⟨_, ?_, ?_, h3, h4⟩
  · rw [Below.heap_setCell _ _ _ _ hne]
    exact h1
  · have h5 := (h2.stored (g * 3 + 2) (.int .i64 st)).1
    rw [List.length_set]
    have key : ∀ j, j < 3 → (L.flatMap One.cells)[g * 3 + j]? = (L[g].cells)[j]? := fun j hj => flat_get One.cells 3 One.cells_length L g j hj hg
    have e : (L.set g ⟨L[g].program, L[g].place, st⟩).flatMap One.cells = (L.flatMap One.cells).set (g * 3 + 2) (.int .i64 st) := by
      rw [ones_set L g _ hg]
      have s1 : (L.flatMap One.cells).set (g * 3) (.int .i64 L[g].program) = L.flatMap One.cells := set_same (key 0 (by omega))
      dsimp only
      rw [s1, set_same (key 1 (by omega))]
    rw [e]
    exact h5

def spawnF (L : List One) (p : Int) : (Int × Int) × List One :=
  if p < 0 then ((0, 1), L) else if L.length = 512 then ((0, 5), L) else ((L.length, 0), L ++ [⟨p, 0, 0⟩])

def turnF (L : List One) (g fr to by_ : Int) : Int × List One :=
  if 0 ≤ g then
    match L[g.toNat]? with
    | none => (6, L)
    | some x => if x.state = fr then (0, L.set g.toNat ⟨x.program, x.place + by_, to⟩) else (7, L)
  else (6, L)

def stateF (L : List One) (g : Int) : Int × Bool := if 0 ≤ g then (match L[g.toNat]? with | none => (0, false) | some x => (x.state, true)) else (0, false)
def atF (L : List One) (g : Int) : Int × Int × Bool := if 0 ≤ g then (match L[g.toNat]? with | none => (0, 0, false) | some x => (x.program, x.place, true)) else (0, 0, false)
def inF (L : List One) (s : Int) : Nat → List Int
  | 0 => []
  | k + 1 => inF L s k ++ (match L[k]? with | none => [] | some x => if x.state = s then [(k : Int)] else [])
def ableF (L : List One) : List Int := inF L 0 L.length
def overF (L : List One) : Int := if 0 < (ableF L).length then 0 else if 0 < (inF L 1 L.length).length then 2 else 1

theorem inF_length (L : List One) (s : Int) : ∀ k, (inF L s k).length ≤ k
  | 0 => Nat.le_refl _
  | k + 1 => by
    have := inF_length L s k
    rw [inF, List.length_append]
    split
    · simp; omega
    · split <;> simp <;> omega

theorem infoOne : (Try.prog.info? 54).map (fun i => (i.zero, i.size, i.bytes)) = some (some (.agg #[.int .i64 0, .int .i64 0, .int .i64 0]), 3, 24) := by kernel_rfl


set_option maxHeartbeats 400000 in
theorem crew_new (w : World) : Calls Try.prog 8 #[] w fun e w' => ∃ c, e = .returned (.pointer (some ⟨c, 0, none⟩)) ∧ CrewAt w' (New Nil w w') c [] ∧ Frm Nil w w' := by
  go_enter Try.func8, Try.ntmps8
  go_wp2
  go_ret
  exact ⟨w.heap.size, rfl, ⟨.slice none 0 0, heap_alloc_new w _, World.ownsRow_nil _ _ _ _, .inr ⟨Nat.le_refl _, by simp⟩, fun k hk => by cases hk⟩, (Frm.refl _ _).alloc _⟩

section
variable {w : World} {S : Nat → Prop} {c : Nat} {L : List One}

set_option maxHeartbeats 400000 in
theorem crew_len (h : CrewAt w S c L) : Calls Try.prog 11 #[.pointer (some ⟨c, 0, none⟩)] w fun e w' => e = .returned (.int .i64 L.length) ∧ w = w' := by
  obtain ⟨a, cap, hc, hf, hm, _⟩ := h.cells
  unfold maxLen at hm
  go_enter Try.func11, Try.ntmps11
  go_wp2
  go_ret
  exact ⟨rfl, rfl⟩

set_option maxHeartbeats 400000 in
theorem crew_len_nil (w : World) : Calls Try.prog 11 #[.pointer none] w fun e w' => e = .returned (.int .i64 0) ∧ w = w' := by
  go_enter Try.func11, Try.ntmps11
  go_wp2
  go_ret
  exact ⟨rfl, rfl⟩

set_option maxHeartbeats 400000 in
theorem crew_of (h : CrewAt w S c L) {b cap : Nat} (hc : w.cell? ⟨c, 0, none⟩ = some (.slice (some ⟨b, 0, none⟩) L.length cap)) (g : Nat) (hg : g < L.length) :
    Calls Try.prog 27 #[.pointer (some ⟨c, 0, none⟩), .int .i64 g] w fun e w' => e = .returned (.pointer (some ⟨b, g * 3, none⟩)) ∧ w = w' := by
  obtain ⟨_, _, _, hf, hm, _⟩ := h.cells
  unfold maxLen at hm
  go_enter Try.func27, Try.ntmps27
  go_wp2_with (go_at_call 11; refine (crew_len h).mono ?_; rintro e w' ⟨rfl, rfl⟩)
  go_ret
  exact ⟨rfl, rfl⟩

set_option maxHeartbeats 400000 in
theorem crew_of_none (h : CrewAt w S c L) (g : Int) (hg : ¬ (0 ≤ g ∧ g < L.length)) :
    Calls Try.prog 27 #[.pointer (some ⟨c, 0, none⟩), .int .i64 g] w fun e w' => e = .returned (.pointer none) ∧ w = w' := by
  obtain ⟨a, cap, hc, hf, hm, _⟩ := h.cells
  unfold maxLen at hm
  go_enter Try.func27, Try.ntmps27
  go_wp2_with (go_at_call 11; refine (crew_len h).mono ?_; rintro e w' ⟨rfl, rfl⟩)
  all_goals (go_ret; exact ⟨rfl, rfl⟩)

set_option maxHeartbeats 400000 in
theorem crew_of_nil (g : Int) (w : World) :
    Calls Try.prog 27 #[.pointer none, .int .i64 g] w fun e w' => e = .returned (.pointer none) ∧ w = w' := by
  go_enter Try.func27, Try.ntmps27
  go_wp2_with (go_at_call 11; refine (crew_len_nil _).mono ?_; rintro e w' ⟨rfl, rfl⟩)
  all_goals (go_ret; exact ⟨rfl, rfl⟩)

/-- What 'of' answers, in one word for those that call it. -/
def OfIs (w : World) (p : Option Addr) (g : Int) (q : Option Addr) : Prop :=
  Calls Try.prog 27 #[.pointer p, .int .i64 g] w fun e w' => e = .returned (.pointer q) ∧ w = w'

set_option maxHeartbeats 400000 in
theorem turn_none {p : Option Addr} {g : Int} (hof : OfIs w p g none) (fr to by_ : Int) :
    Calls Try.prog 26 #[.pointer p, .int .i64 g, .int .i64 fr, .int .i64 to, .int .i64 by_] w fun e w' => e = .returned (.int .i64 6) ∧ w = w' := by
  go_enter Try.func26, Try.ntmps26
  go_wp2_with (go_at_call 27; refine Calls.mono hof ?_; rintro e w' ⟨rfl, rfl⟩)
  go_ret
  exact ⟨rfl, rfl⟩

set_option maxHeartbeats 400000 in
theorem turn_state {p : Option Addr} {g : Int} {b j : Nat} (hof : OfIs w p g (some ⟨b, j, none⟩)) (fr to by_ st : Int) (hs : w.cell? ⟨b, j + 2, none⟩ = some (.int .i64 st)) (hne : (st != fr) = true) :
    Calls Try.prog 26 #[.pointer p, .int .i64 g, .int .i64 fr, .int .i64 to, .int .i64 by_] w fun e w' => e = .returned (.int .i64 7) ∧ w = w' := by
  go_enter Try.func26, Try.ntmps26
  go_wp2_with (go_at_call 27; refine Calls.mono hof ?_; rintro e w' ⟨rfl, rfl⟩)
  go_ret
  exact ⟨rfl, rfl⟩

set_option maxHeartbeats 400000 in
theorem turn_ok {p : Option Addr} {g : Int} {b j : Nat} (hof : OfIs w p g (some ⟨b, j, none⟩)) (fr to by_ pl : Int) (hs : w.cell? ⟨b, j + 2, none⟩ = some (.int .i64 fr)) (hp : w.cell? ⟨b, j + 1, none⟩ = some (.int .i64 pl))
    (hf : ∀ i, w.frozen? ⟨b, i, none⟩ = false) (h2 : -1000000000 ≤ pl + by_) (h3 : pl + by_ ≤ 1000000000) :
    Calls Try.prog 26 #[.pointer p, .int .i64 g, .int .i64 fr, .int .i64 to, .int .i64 by_] w fun e w' => e = .returned (.int .i64 0) ∧
      w' = (w.setCell ⟨b, j + 2, none⟩ (.int .i64 to)).setCell ⟨b, j + 1, none⟩ (.int .i64 (pl + by_)) := by
  go_enter Try.func26, Try.ntmps26
  go_wp2_with (go_at_call 27; refine Calls.mono hof ?_; rintro e w' ⟨rfl, rfl⟩)
  go_ret
  exact ⟨rfl, rfl⟩

/-- A method that changes a crew answers r, and it is L' then. -/
def CrewPost (S : Nat → Prop) (c : Nat) (w : World) (r : Value) (L' : List One) : Ending → World → Prop :=
  fun e w' => e = .returned r ∧ CrewAt w' (New S w w') c L' ∧ Frm S w w'

def Small (L : List One) (N : Int) : Prop := ∀ x ∈ L, 0 ≤ x.place ∧ x.place ≤ N

theorem crew_turn (h : CrewAt w S c L) (hp : Small L 100000000) (g fr to by_ : Int) (hb0 : 0 ≤ by_) (hb1 : by_ ≤ 1) :
    Calls Try.prog 26 #[.pointer (some ⟨c, 0, none⟩), .int .i64 g, .int .i64 fr, .int .i64 to, .int .i64 by_] w
      (CrewPost S c w (.int .i64 (turnF L g fr to by_).1) (turnF L g fr to by_).2) := by
  have stay : ∀ r, Ending.returned r = Ending.returned r ∧ CrewAt w (New S w w) c L ∧ Frm S w w := fun r => ⟨rfl, h.mono (fun k hk => .inl hk), Frm.refl _ _⟩
  by_cases hg : 0 ≤ g ∧ g < L.length
  · obtain ⟨k, rfl⟩ := Int.eq_ofNat_of_zero_le hg.1
    have hk : k < L.length := by omega
    obtain ⟨a, cap, hc, _, _, hx⟩ := h.cells
    obtain ⟨b, rfl, hSb, hbc, hfz, hcells⟩ := hx (by omega)
    obtain ⟨_, h1, h2⟩ := hcells k hk
    have hof : OfIs w (some ⟨c, 0, none⟩) (k : Int) (some ⟨b, k * 3, none⟩) := crew_of h hc k hk
    have hget : L[((k : Nat) : Int).toNat]? = some L[k] := by rw [Int.toNat_natCast]; exact List.getElem?_eq_getElem hk
    have hpl := hp L[k] (List.getElem_mem hk)
    by_cases hst : L[k].state = fr
    · have e : turnF L k fr to by_ = (0, L.set k ⟨L[k].program, L[k].place + by_, to⟩) := by
        unfold turnF
        rw [if_pos (by omega), hget]
        simp only [hst, if_true, Int.toNat_natCast]
      rw [e]
      refine (turn_ok hof fr to by_ L[k].place (by rw [← hst]; exact h2) h1 hfz (by omega) (by omega)).mono ?_
      rintro e w' ⟨rfl, rfl⟩
      have hst2 := OnesAt.stored h hc k hk (L[k].place + by_) to
      exact ⟨rfl, hst2.mono (fun k hk => .inl hk), ((Frm.refl _ _).setCell (fun _ => hSb) _).setCell (fun _ => hSb) _⟩
    · have e : turnF L k fr to by_ = (7, L) := by
        unfold turnF
        rw [if_pos (by omega), hget]
        simp only [hst, if_false]
      rw [e]
      refine (turn_state hof fr to by_ _ h2 (by simpa using hst)).mono ?_
      rintro e w' ⟨rfl, rfl⟩
      exact stay _
  · have e : turnF L g fr to by_ = (6, L) := by
      unfold turnF
      split
      · rw [List.getElem?_eq_none (by omega)]
      · rfl
    rw [e]
    refine (turn_none (crew_of_none h g hg) fr to by_).mono ?_
    rintro e w' ⟨rfl, rfl⟩
    exact stay _

set_option maxHeartbeats 400000 in
theorem crew_go (h : CrewAt w S c L) (hp : Small L 100000000) (g : Int) : Calls Try.prog 13 #[.pointer (some ⟨c, 0, none⟩), .int .i64 g] w (CrewPost S c w (.int .i64 (turnF L g 0 0 1).1) (turnF L g 0 0 1).2) := by
  go_enter Try.func13, Try.ntmps13
  go_wp2_with (go_at_call 26; refine (crew_turn h hp g 0 0 1 (by omega) (by omega)).mono ?_; rintro e w' ⟨rfl, h1, h2⟩)
  go_ret
  exact ⟨rfl, h1, h2⟩

set_option maxHeartbeats 400000 in
theorem crew_park (h : CrewAt w S c L) (hp : Small L 100000000) (g : Int) : Calls Try.prog 14 #[.pointer (some ⟨c, 0, none⟩), .int .i64 g] w (CrewPost S c w (.int .i64 (turnF L g 0 1 0).1) (turnF L g 0 1 0).2) := by
  go_enter Try.func14, Try.ntmps14
  go_wp2_with (go_at_call 26; refine (crew_turn h hp g 0 1 0 (by omega) (by omega)).mono ?_; rintro e w' ⟨rfl, h1, h2⟩)
  go_ret
  exact ⟨rfl, h1, h2⟩

set_option maxHeartbeats 400000 in
theorem crew_wake (h : CrewAt w S c L) (hp : Small L 100000000) (g : Int) : Calls Try.prog 15 #[.pointer (some ⟨c, 0, none⟩), .int .i64 g] w (CrewPost S c w (.int .i64 (turnF L g 1 0 1).1) (turnF L g 1 0 1).2) := by
  go_enter Try.func15, Try.ntmps15
  go_wp2_with (go_at_call 26; refine (crew_turn h hp g 1 0 1 (by omega) (by omega)).mono ?_; rintro e w' ⟨rfl, h1, h2⟩)
  go_ret
  exact ⟨rfl, h1, h2⟩

set_option maxHeartbeats 400000 in
theorem crew_exit (h : CrewAt w S c L) (hp : Small L 100000000) (g : Int) : Calls Try.prog 16 #[.pointer (some ⟨c, 0, none⟩), .int .i64 g] w (CrewPost S c w (.int .i64 (turnF L g 0 2 0).1) (turnF L g 0 2 0).2) := by
  go_enter Try.func16, Try.ntmps16
  go_wp2_with (go_at_call 26; refine (crew_turn h hp g 0 2 0 (by omega) (by omega)).mono ?_; rintro e w' ⟨rfl, h1, h2⟩)
  go_ret
  exact ⟨rfl, h1, h2⟩
end

end Go.Proofs.Ytlfboploganglaa
