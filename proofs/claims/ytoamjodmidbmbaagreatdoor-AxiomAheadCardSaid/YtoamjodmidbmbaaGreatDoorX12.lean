/- Texts of the proof. -/
import Derived.Test.YtoamjodmidbmbaaGreatDoorX10
import Derived.Test.YtoamjodmidbmbaaGreatDoorX05
import Derived.Test.YtoamjodmidbmbaaGreatDoorX11
set_option linter.unusedVariables false
set_option linter.unusedSimpArgs false
namespace Go.Proofs.YtoamjodmidbmbaaGreatDoor
structure RtL (l : List Ev) : Prop where
 b : ∀ j, j < l.length → brR l j = 0
def ownF (l : List Ev) (g : Int) : Nat → Option Nat
 | 0 => none
 | i + 1 => if (l.getD i evz).kind ≠ 13 ∧ (l.getD i evz).g = g then some i else ownF l g i
def spF (l : List Ev) (g : Int) : Nat → Option Nat
 | 0 => none
 | i + 1 => if (l.getD i evz).kind = 1 ∧ (l.getD i evz).mate = g then some i else spF l g i
def pkW (l : List Ev) (g : Int) : Nat → Option Nat
 | 0 => none
 | i + 1 => if (l.getD i evz).kind = 6 ∧ (l.getD i evz).g = g then some i else pkW l g i
def clF (l : List Ev) (c : Int) : Nat → Option Nat
 | 0 => none
 | i + 1 => if (l.getD i evz).kind = 5 ∧ (l.getD i evz).chan = c then some i else clF l c i
def mkU (l : List Ev) (c : Int) : Nat → Option Nat
 | 0 => none
 | i + 1 => match mkU l c i with
  | some v => some v
  | none => if (l.getD i evz).kind = 2 ∧ (l.getD i evz).chan = c then some (l.getD i evz).value.toNat else none
def thU (l : List Ev) : Nat → Nat
 | 0 => 1
 | i + 1 => if (l.getD i evz).kind = 1 then thU l i + 1 else thU l i
section
variable {l : List Ev} {i j k n : Nat} {g c : Int}
theorem ownW_some : ∀ {i}, ownF l g i = some j → j < i ∧ (l.getD j evz).kind ≠ 13 ∧ (l.getD j evz).g = g ∧ ∀ k, j < k → k < i → ¬ ((l.getD k evz).kind ≠ 13 ∧ (l.getD k evz).g = g)
 | 0, h => by cases h
 | i + 1, h => by
  unfold ownF at h
  split at h
  ·rename_i hh
   injection h with h
   subst h
   exact ⟨Nat.lt_succ_self _, hh.1, hh.2, fun k h1 h2 => by omega⟩
  ·rename_i hh
   obtain ⟨a, b, c, d⟩ := ownW_some h
   exact ⟨by omega, b, c, fun k h1 h2 => by
    rcases Nat.lt_or_ge k i with h3 | h3
    ·exact d k h1 h3
    ·obtain rfl : k = i := by omega
     exact hh⟩
theorem ownW_none : ∀ {i}, ownF l g i = none → ∀ k, k < i → ¬ ((l.getD k evz).kind ≠ 13 ∧ (l.getD k evz).g = g)
 | 0, _ => fun k h => by omega
 | i + 1, h => by
  unfold ownF at h
  split at h
  ·cases h
  ·rename_i hh
   intro k hk
   rcases Nat.lt_or_ge k i with h3 | h3
   ·exact ownW_none h k h3
   ·obtain rfl : k = i := by omega
    exact hh
theorem ownW_is : ∀ {i}, j < i → (l.getD j evz).kind ≠ 13 → (l.getD j evz).g = g → (∀ k, j < k → k < i → ¬ ((l.getD k evz).kind ≠ 13 ∧ (l.getD k evz).g = g)) → ownF l g i = some j
 | 0, h, _, _, _ => by omega
 | i + 1, h, h1, h2, h3 => by
  unfold ownF
  by_cases hji : j = i
  ·subst hji
   rw [if_pos ⟨h1, h2⟩]
  ·rw [if_neg (h3 i (by omega) (Nat.lt_succ_self _))]
   exact ownW_is (by omega) h1 h2 (fun k a b => h3 k a (by omega))
theorem spW_some : ∀ {i}, spF l g i = some j → j < i ∧ (l.getD j evz).kind = 1 ∧ (l.getD j evz).mate = g
 | 0, h => by cases h
 | i + 1, h => by
  unfold spF at h
  split at h
  ·rename_i hh
   injection h with h
   subst h
   exact ⟨Nat.lt_succ_self _, hh⟩
  ·obtain ⟨a, b⟩ := spW_some h
   exact ⟨by omega, b⟩
theorem pkW_some : ∀ {i}, pkW l g i = some j → j < i ∧ (l.getD j evz).kind = 6 ∧ (l.getD j evz).g = g
 | 0, h => by cases h
 | i + 1, h => by
  unfold pkW at h
  split at h
  ·rename_i hh
   injection h with h
   subst h
   exact ⟨Nat.lt_succ_self _, hh⟩
  ·obtain ⟨a, b⟩ := pkW_some h
   exact ⟨by omega, b⟩
theorem clW_some : ∀ {i}, clF l c i = some j → j < i ∧ (l.getD j evz).kind = 5 ∧ (l.getD j evz).chan = c
 | 0, h => by cases h
 | i + 1, h => by
  unfold clF at h
  split at h
  ·rename_i hh
   injection h with h
   subst h
   exact ⟨Nat.lt_succ_self _, hh⟩
  ·obtain ⟨a, b⟩ := clW_some h
   exact ⟨by omega, b⟩
theorem clW_ne : ∀ {i}, j < i → (l.getD j evz).kind = 5 → (l.getD j evz).chan = c → ∃ k, clF l c i = some k
 | 0, h, _, _ => by omega
 | i + 1, h, h1, h2 => by
  unfold clF
  split
  ·exact ⟨_, rfl⟩
  ·rename_i hh
   exact clW_ne (by
    rcases Nat.lt_or_ge j i with h3 | h3
    ·exact h3
    ·obtain rfl : j = i := by omega
     exact absurd ⟨h1, h2⟩ hh) h1 h2
theorem go_there (g : Int) : ∀ i, (goR l g i).there = thU l i
 | 0 => rfl
 | i + 1 => by
  show (if (l.getD i evz).kind = 1 then (goR l g i).there + 1 else (goR l g i).there) = _
  rw [go_there g i]
  rfl
theorem th_mono : ∀ {i j}, i ≤ j → thU l i ≤ thU l j
 | i, 0, h => by
  obtain rfl : i = 0 := by omega
  exact Nat.le_refl _
 | i, j + 1, h => by
  rcases Nat.lt_or_ge i (j + 1) with h1 | h1
  ·refine Nat.le_trans (th_mono (i := i) (j := j) (by omega)) ?_
   rw [thU]
   split <;> omega
  ·obtain rfl : i = j + 1 := by omega
   exact Nat.le_refl _
theorem mk_mono : ∀ {i j}, i ≤ j → makesR l i ≤ makesR l j
 | i, 0, h => by
  obtain rfl : i = 0 := by omega
  exact Nat.le_refl _
 | i, j + 1, h => by
  rcases Nat.lt_or_ge i (j + 1) with h1 | h1
  ·refine Nat.le_trans (mk_mono (i := i) (j := j) (by omega)) ?_
   rw [makesR]
   split <;> omega
  ·obtain rfl : i = j + 1 := by omega
   exact Nat.le_refl _
theorem waits_park (g : Int) : ∀ i, (goR l g i).waits = true → ∃ k, pkW l g i = some k
 | 0, h => by cases h
 | i + 1, h => by
  unfold pkW
  split
  ·exact ⟨_, rfl⟩
  ·rename_i hh
   refine waits_park g i ?_
   have h' : (if (l.getD i evz).g ≠ g ∨ (l.getD i evz).kind = 13 then (goR l g i).waits else if (l.getD i evz).kind = 7 then false else if (l.getD i evz).kind = 6 then true else (goR l g i).waits) = true := h
   split at h'
   ·exact h'
   ·rename_i h1
    split at h'
    ·cases h'
    ·split at h'
     ·rename_i h6
      exact absurd ⟨h6, by simpa using fun hg => h1 (.inl hg)⟩ hh
     ·exact h'
theorem begK_is (g : Int) (d : Nat) : ∀ i, begK l g d i = (pkW l g i).getD d
 | 0 => rfl
 | i + 1 => by
  unfold begK pkW
  split
  ·rfl
  ·exact begK_is g d i
theorem back_close (e : Ev) : ∀ i, backR l e i = true → ∃ j, j < i ∧ (l.getD j evz).kind = 5 ∧ (l.getD j evz).chan = e.chan
 | 0, h => by cases h
 | i + 1, h => by
  unfold backR at h
  dsimp only at h
  split at h
  ·rename_i h5
   simp only [Bool.and_eq_true, beq_iff_eq] at h
   exact ⟨i, Nat.lt_succ_self _, h5, h.2⟩
  ·split at h
   ·cases h
   ·obtain ⟨j, a, b⟩ := back_close e i h
    exact ⟨j, by omega, b⟩
theorem ins_close (c : Int) : ∀ i, (insR l c i).closed = true → ∃ j, j < i ∧ (l.getD j evz).kind = 5 ∧ (l.getD j evz).chan = c
 | 0, h => by cases h
 | i + 1, h => by
  have h' : (insStep l c i (insR l c i)).closed = true := h
  unfold insStep at h'
  dsimp only at h'
  by_cases hc : (l.getD i evz).chan ≠ c
  ·rw [if_pos hc] at h'
   obtain ⟨j, a, b⟩ := ins_close c i h'
   exact ⟨j, by omega, b⟩
  ·rw [if_neg hc] at h'
   by_cases h5 : (l.getD i evz).kind = 5
   ·exact ⟨i, Nat.lt_succ_self _, h5, Classical.not_not.1 hc⟩
   ·rw [if_neg h5] at h'
    have : (insR l c i).closed = true := by
     revert h'
     split
     ·exact id
     ·split
      ·split <;> exact id
      ·exact id
    obtain ⟨j, a, b⟩ := ins_close c i this
    exact ⟨j, by omega, b⟩
end
namespace RtL
variable {l : List Ev} {i j : Nat} {c : Int}
theorem parts (h : RtL l) (hj : j < l.length) : Rt (l.getD j evz) ∧ crewR l j = true ∧ madeR l j = true ∧ servedR l j = true ∧ orderedR l j = true ∧ closedR l j = true := by
 have hb := h.b j hj
 unfold brR at hb
 split at hb
 ·cases hb
 ·rename_i h1
  split at hb
  ·cases hb
  ·rename_i h2
   split at hb
   ·cases hb
   ·rename_i h3
    split at hb
    ·cases hb
    ·rename_i h4
     split at hb
     ·cases hb
     ·rename_i h5
      split at hb
      ·cases hb
      ·rename_i h6
       exact ⟨Rt.of (Classical.not_not.1 h1), by simpa using h2, by simpa using h3, by simpa using h4, by simpa using h5, by simpa using h6⟩
theorem crew (h : RtL l) (hj : j < l.length) (h13 : (l.getD j evz).kind ≠ 13) : (l.getD j evz).g < thU l j ∧ ((l.getD j evz).kind = 7 → (goR l (l.getD j evz).g j).waits = true) ∧ ((l.getD j evz).kind = 1 → (l.getD j evz).mate = thU l j) := by
 have hc := (h.parts hj).2.1
 unfold crewR at hc
 dsimp only at hc
 split at hc
 ·cases hc
 ·rw [go_there] at hc
  simp only [Bool.and_eq_true, Bool.or_eq_true, decide_eq_true_eq, beq_iff_eq, bne_iff_ne] at hc
  obtain ⟨⟨⟨a, _⟩, b⟩, d⟩ := hc
  refine ⟨a, fun h7 => ?_, fun h1 => ?_⟩
  ·rcases b with b | b
   ·omega
   ·rw [b]
    exact beq_iff_eq.2 h7
  ·rcases d with d | d
   ·exact absurd h1 d
   ·exact d
theorem made (h : RtL l) (hj : j < l.length) : ((l.getD j evz).kind = 2 → (l.getD j evz).chan = makesR l j) ∧ ((l.getD j evz).kind ≠ 2 → (l.getD j evz).chan < makesR l j) := by
 have hc := (h.parts hj).2.2.1
 unfold madeR at hc
 split at hc
 ·rename_i h2
  exact ⟨fun _ => by simpa using hc, fun hh => absurd h2 hh⟩
 ·rename_i h2
  exact ⟨fun hh => absurd hh h2, fun _ => by simpa using hc⟩
theorem wake (h : RtL l) (hj : i + 1 < l.length) (hm : 0 ≤ (l.getD i evz).mate) (hk : (l.getD i evz).kind = 3 ∨ (l.getD i evz).kind = 4) :
  (l.getD (i + 1) evz).kind = 7 ∧ (l.getD (i + 1) evz).g = (l.getD i evz).mate ∧ (l.getD (i + 1) evz).chan = (l.getD i evz).chan ∧ (l.getD (i + 1) evz).send = !(l.getD i evz).send ∧ (l.getD (i + 1) evz).ok = true := by
 have hc := (h.parts hj).2.2.2.1
 have hs : servesF (l.getD i evz) = true := by
  unfold servesF
  rw [decide_eq_true hm]
  rcases hk with hk | hk <;> rw [hk] <;> rfl
 unfold servedR at hc
 dsimp only at hc
 rw [if_pos ⟨Nat.succ_pos i, hs⟩] at hc
 simp only [Bool.and_eq_true, beq_iff_eq, bne_iff_ne, Nat.add_sub_cancel] at hc
 obtain ⟨⟨⟨⟨⟨⟨a, b⟩, c⟩, d⟩, e⟩, f⟩, _⟩ := hc
 refine ⟨a, b, d, ?_, f⟩
 revert e
 generalize (l.getD (i + 1) evz).send = x
 generalize (l.getD i evz).send = y
 cases x <;> cases y <;> decide
theorem ended (h : RtL l) (hj : j < l.length) (hk : (l.getD j evz).kind = 4 ∨ (l.getD j evz).kind = 7) (ho : (l.getD j evz).ok = false) : ∃ k, clF l (l.getD j evz).chan j = some k := by
 rcases hk with hk | hk
 ·have hc := (h.parts hj).2.2.2.2.2
  unfold closedR at hc
  dsimp only at hc
  rw [if_neg (by omega), if_pos ⟨hk, ho⟩] at hc
  simp only [Bool.and_eq_true] at hc
  obtain ⟨k, a, b, d⟩ := ins_close _ _ hc.1
  exact clW_ne a b d
 ·have hc := (h.parts hj).2.2.2.1
  unfold servedR at hc
  dsimp only at hc
  split at hc
  ·simp only [Bool.and_eq_true, ho] at hc
   exact absurd hc.1.2 (by decide)
  ·rw [if_neg (by omega)] at hc
   split at hc
   ·cases hc
   ·obtain ⟨k, a, b, d⟩ := back_close _ _ hc
    exact clW_ne a b d
theorem parked (h : RtL l) (hj : j < l.length) (h7 : (l.getD j evz).kind = 7) : ∃ k, pkW l (l.getD j evz).g j = some k :=
 waits_park _ _ ((h.crew hj (by omega)).2.1 h7)
theorem own_new (h : RtL l) {g : Int} : ∀ {i}, i ≤ l.length → (thU l i : Int) ≤ g → ownF l g i = none
 | 0, _, _ => rfl
 | i + 1, hi, hg => by
  unfold ownF
  have h1 := th_mono (l := l) (show i ≤ i + 1 by omega)
  rw [if_neg, own_new h (by omega) (by omega)]
  rintro ⟨a, b⟩
  have := (h.crew (j := i) (by omega) a).1
  omega
theorem done_new (h : RtL l) {s : Bool} : ∀ {i}, i ≤ l.length → (makesR l i : Int) ≤ c → doneU l c s i = []
 | 0, _, _ => rfl
 | i + 1, hi, hg => by
  unfold doneU
  have h1 := mk_mono (l := l) (show i ≤ i + 1 by omega)
  rw [done_new h (by omega) (by omega), List.nil_append]
  unfold doneO
  rw [if_pos]
  by_cases h2 : (l.getD i evz).kind = 2
  ·right; omega
  ·have := (h.made (j := i) (by omega)).2 h2
   left; omega
theorem cl_new (h : RtL l) : ∀ {i}, i ≤ l.length → (makesR l i : Int) ≤ c → clF l c i = none
 | 0, _, _ => rfl
 | i + 1, hi, hg => by
  unfold clF
  have h1 := mk_mono (l := l) (show i ≤ i + 1 by omega)
  rw [if_neg, cl_new h (by omega) (by omega)]
  rintro ⟨a, b⟩
  have := (h.made (j := i) (by omega)).2 (by omega)
  omega
theorem mk_new (h : RtL l) : ∀ {i}, i ≤ l.length → (makesR l i : Int) ≤ c → mkU l c i = none
 | 0, _, _ => rfl
 | i + 1, hi, hg => by
  unfold mkU
  have h1 := mk_mono (l := l) (show i ≤ i + 1 by omega)
  rw [mk_new h (by omega) (by omega)]
  dsimp only
  rw [if_neg]
  rintro ⟨a, b⟩
  have := (h.made (j := i) (by omega)).1 a
  have h2 : makesR l (i + 1) = makesR l i + 1 := by rw [makesR, if_pos a]
  omega
end RtL
def bp (l : List Ev) (d : Nat) : Nat × Nat := (begF l d, d)
def chU (l : List Ev) (i k : Nat) : ChE := ⟨(mkU l k i).getD 0, (doneU l k true i).map (bp l), (doneU l k false i).map (bp l), (clF l k i).getD 0⟩
def addA (l : List Ev) (i : Nat) : List Edg :=
 if (l.getD i evz).kind = 13 then [] else
 match ownF l (l.getD i evz).g i with
 | some f => [⟨f, i, 1⟩]
 | none => match spF l (l.getD i evz).g i with
  | some f => [⟨f, i, 2⟩]
  | none => []
def addC (l : List Ev) (i : Nat) : List Edg :=
 if ((l.getD i evz).kind = 4 ∨ (l.getD i evz).kind = 7) ∧ (l.getD i evz).ok = false then
  match clF l (l.getD i evz).chan i with
  | some f => [⟨f, i, 4⟩]
  | none => []
 else []
def lastW (l : List Ev) (i : Nat) (g : Int) : Option Nat := match ownF l g i with
 | some f => some f
 | none => spF l g i
def ruleW (l : List Ev) (i : Nat) (g : Int) : Option Nat := match ownF l g i with
 | some _ => some 1
 | none => (spF l g i).map fun _ => 2
def formE (l : List Ev) (i : Nat) : EdS := ⟨(List.range i).flatMap (fun t => addA l t ++ addC l t), lastW l i, ruleW l i, fun g => pkW l g i, (List.range (makesR l i)).map (chU l i)⟩
section
variable {l : List Ev} {i : Nat}
theorem set_range {α : Type} {m c : Nat} {f g : Nat → α} {x : α} (h : ∀ k, k < m → g k = if k = c then x else f k) : ((List.range m).map f).set c x = (List.range m).map g := by
 apply List.ext_getElem?
 intro k
 rw [List.getElem?_set]
 by_cases hk : k < m
 ·rw [List.getElem?_map, List.getElem?_map, List.getElem?_range hk, List.length_map, List.length_range]
  simp only [Option.map_some]
  rw [h k hk]
  by_cases hc : c = k
  ·subst hc
   rw [if_pos rfl, if_pos hk, if_pos rfl]
  ·rw [if_neg hc, if_neg (fun e => hc e.symm)]
 ·have e1 : (List.map f (List.range m))[k]? = none := List.getElem?_eq_none (by simp; omega)
  have e2 : (List.map g (List.range m))[k]? = none := List.getElem?_eq_none (by simp; omega)
  rw [e1, e2, List.length_map, List.length_range]
  split
  ·rw [if_neg (by omega)]
  ·rfl
theorem get_range {m c : Nat} {f : Nat → ChE} (h : c < m) : ((List.range m).map f).getD c chz = f c := by
 rw [List.getD_eq_getElem?_getD, List.getElem?_map, List.getElem?_range h]
 rfl
theorem last_succ (h : RtL l) (hi : i < l.length) (h13 : (l.getD i evz).kind ≠ 13) : lastW l (i + 1) = (if (l.getD i evz).kind = 1 then updN (updN (lastW l i) (l.getD i evz).g i) (l.getD i evz).mate i else updN (lastW l i) (l.getD i evz).g i) ∧ ruleW l (i + 1) = (if (l.getD i evz).kind = 1 then updN (updN (ruleW l i) (l.getD i evz).g 1) (l.getD i evz).mate 2 else updN (ruleW l i) (l.getD i evz).g 1) := by
 obtain ⟨c1, _, c3⟩ := h.crew hi h13
 have hg : ∀ g, ownF l g (i + 1) = if (l.getD i evz).g = g then some i else ownF l g i := fun g => by
  rw [ownF]
  by_cases hh : (l.getD i evz).g = g
  ·rw [if_pos ⟨h13, hh⟩, if_pos hh]
  ·rw [if_neg (fun e => hh e.2), if_neg hh]
 by_cases h1 : (l.getD i evz).kind = 1
 ·have hm := c3 h1
  have hn := h.own_new (i := i) (g := (l.getD i evz).mate) (by omega) (by omega)
  have hsp : ∀ g, spF l g (i + 1) = if (l.getD i evz).mate = g then some i else spF l g i := fun g => by
   rw [spF]
   by_cases hh : (l.getD i evz).mate = g
   ·rw [if_pos ⟨h1, hh⟩, if_pos hh]
   ·rw [if_neg (fun e => hh e.2), if_neg hh]
  rw [if_pos h1, if_pos h1]
  constructor <;> funext g
  ·unfold lastW updN
   rw [hg, hsp]
   by_cases e1 : g = (l.getD i evz).mate
   ·rw [if_pos e1, if_neg (by omega), e1, hn, if_pos rfl]
   ·rw [if_neg e1]
    by_cases e2 : g = (l.getD i evz).g
    ·rw [if_pos e2, if_pos e2.symm]
    ·rw [if_neg e2, if_neg (fun e => e2 e.symm), if_neg (fun e => e1 e.symm)]
  ·unfold ruleW updN
   rw [hg, hsp]
   by_cases e1 : g = (l.getD i evz).mate
   ·rw [if_pos e1, if_neg (by omega), e1, hn, if_pos rfl]
    rfl
   ·rw [if_neg e1]
    by_cases e2 : g = (l.getD i evz).g
    ·rw [if_pos e2, if_pos e2.symm]
    ·rw [if_neg e2, if_neg (fun e => e2 e.symm), if_neg (fun e => e1 e.symm)]
 ·have hsp : ∀ g, spF l g (i + 1) = spF l g i := fun g => by rw [spF, if_neg (fun e => h1 e.1)]
  rw [if_neg h1, if_neg h1]
  constructor <;> funext g
  ·unfold lastW updN
   rw [hg, hsp]
   by_cases e2 : g = (l.getD i evz).g
   ·rw [if_pos e2, if_pos e2.symm]
   ·rw [if_neg e2, if_neg (fun e => e2 e.symm)]
  ·unfold ruleW updN
   rw [hg, hsp]
   by_cases e2 : g = (l.getD i evz).g
   ·rw [if_pos e2, if_pos e2.symm]
   ·rw [if_neg e2, if_neg (fun e => e2 e.symm)]
theorem from_form (h : RtL l) (hi : i < l.length) (h13 : (l.getD i evz).kind ≠ 13) : fromE i (l.getD i evz) (formE l i) = { formE l i with edges := (formE l i).edges ++ addA l i } := by
 unfold fromE addA
 rw [if_neg h13]
 show (match lastW l i (l.getD i evz).g with | none => formE l i | some f => { formE l i with edges := putL (formE l i).edges f i ((ruleW l i (l.getD i evz).g).getD 0) }) = _
 unfold lastW ruleW
 cases ho : ownF l (l.getD i evz).g i with
 | some f =>
  dsimp only
  have := (ownW_some ho).1
  unfold putL
  rw [if_pos this]
  rfl
 | none =>
  dsimp only
  cases hs : spF l (l.getD i evz).g i with
  | some f =>
   dsimp only
   have := (spW_some hs).1
   unfold putL
   rw [if_pos this]
   rfl
  | none =>
   dsimp only
   rw [List.append_nil]
theorem mkU_keep {c : Int} (h : ¬ ((l.getD i evz).kind = 2 ∧ (l.getD i evz).chan = c)) : mkU l c (i + 1) = mkU l c i := by
 rw [mkU]
 cases mkU l c i with
 | none => dsimp only; rw [if_neg h]
 | some v => rfl
theorem clW_keep {c : Int} (h : ¬ ((l.getD i evz).kind = 5 ∧ (l.getD i evz).chan = c)) : clF l c (i + 1) = clF l c i := by rw [clF, if_neg h]
theorem ch_same (h3 : (l.getD i evz).kind ≠ 3) (h4 : (l.getD i evz).kind ≠ 4 ∨ (l.getD i evz).ok = false) (h5 : (l.getD i evz).kind ≠ 5) (h2 : (l.getD i evz).kind ≠ 2) (k : Nat) : chU l (i + 1) k = chU l i k := by
 have hd : ∀ s, doneU l k s (i + 1) = doneU l k s i := fun s => by
  rw [doneU]
  unfold doneO
  rw [if_pos (.inr ⟨h3, h4⟩), List.append_nil]
 unfold chU
 rw [hd, hd, mkU_keep (fun e => h2 e.1), clW_keep (fun e => h5 e.1)]
theorem ch_other (k : Nat) (hk : (l.getD i evz).chan ≠ k) : chU l (i + 1) k = chU l i k := by
 have hd : ∀ s, doneU l k s (i + 1) = doneU l k s i := fun s => by
  rw [doneU]
  unfold doneO
  rw [if_pos (.inl hk), List.append_nil]
 unfold chU
 rw [hd, hd, mkU_keep (fun e => hk e.2), clW_keep (fun e => hk e.2)]
theorem mkR_same (h2 : (l.getD i evz).kind ≠ 2) : makesR l (i + 1) = makesR l i := by rw [makesR, if_neg h2]
theorem beg_wake (h : RtL l) (hj : i + 1 < l.length) (hm : 0 ≤ (l.getD i evz).mate) (hk : (l.getD i evz).kind = 3 ∨ (l.getD i evz).kind = 4) : ∃ p, pkW l (l.getD i evz).mate i = some p ∧ begF l (i + 1) = p := by
 obtain ⟨w1, w2, _⟩ := h.wake hj hm hk
 obtain ⟨p, hp⟩ := h.parked hj w1
 have hp' := hp
 rw [w2, pkW, if_neg (by omega)] at hp'
 refine ⟨p, hp', ?_⟩
 unfold begF
 rw [if_neg (fun e => e w1), begK_is, hp]
 rfl
theorem beg_own (h : (l.getD i evz).kind ≠ 7) : begF l i = i := by unfold begF; rw [if_pos h]
theorem move_form (h : RtL l) (hi : i < l.length) (hk : (l.getD i evz).kind = 3 ∨ ((l.getD i evz).kind = 4 ∧ (l.getD i evz).ok = true)) : ((List.range (makesR l i)).map (chU l i)).set (l.getD i evz).chan.toNat (movC (chAt ((List.range (makesR l i)).map (chU l i)) (l.getD i evz).chan) (l.getD i evz) i (servE l (fun g => pkW l g i) i (l.getD i evz))) = (List.range (makesR l (i + 1))).map (chU l (i + 1)) := by
 obtain ⟨hr, _⟩ := h.parts hi
 have hc0 := hr.cc (by omega)
 have hc1 := (h.made hi).2 (by omega)
 obtain ⟨c, hc⟩ := Int.eq_ofNat_of_zero_le hc0
 rw [mkR_same (by omega)]
 refine set_range fun k hkm => ?_
 by_cases hkc : k = (l.getD i evz).chan.toNat
 ·rw [if_pos hkc]
  have hck : (l.getD i evz).chan = k := by omega
  unfold chAt
  rw [← hkc, get_range hkm]
  have ho : ∀ s, doneO l k s i = if (l.getD i evz).send = s then [i] else if 0 ≤ (l.getD i evz).mate ∧ i + 1 < l.length then [i + 1] else [] := fun s => by
   unfold doneO
   rw [if_neg]
   rintro (e | ⟨e1, e2⟩)
   ·exact e hck
   ·rcases hk with hk | ⟨hk, ho⟩
    ·exact e1 hk
    ·rcases e2 with e2 | e2
     ·exact e2 hk
     ·rw [ho] at e2; cases e2
  have hserv : (servE l (fun g => pkW l g i) i (l.getD i evz)).toList = (if 0 ≤ (l.getD i evz).mate ∧ i + 1 < l.length then [i + 1] else []).map (bp l) := by
   unfold servE
   by_cases hh : 0 ≤ (l.getD i evz).mate ∧ i + 1 < l.length
   ·rw [if_pos hh, if_neg (by omega)]
    obtain ⟨p, hp, hb⟩ := beg_wake h hh.2 hh.1 (by omega)
    simp only [hp, Option.getD_some, Option.toList_some, List.map_cons, List.map_nil, bp, hb]
   ·rw [if_neg hh, if_pos (by omega)]
    rfl
  have hb : bp l i = (i, i) := by unfold bp; rw [beg_own (by omega)]
  unfold chU
  rw [doneU, doneU, ho, ho, clW_keep (fun e => by omega), mkU_keep (fun e => by omega)]
  unfold movC
  rcases hk with hk | ⟨hk, hok⟩
  ·rw [if_pos hk, hr.s3 hk, if_pos rfl, if_neg (by decide), hserv]
   simp only [List.map_append, List.map_cons, List.map_nil, hb]
  ·rw [hr.s4 hk, if_neg (show ¬ (false = true) by decide), if_pos (show false = false from rfl), if_neg (show ¬ ((l.getD i evz).kind = 3) by omega), if_pos hok, hserv]
   simp only [List.map_append, List.map_cons, List.map_nil, hb]
 ·rw [if_neg hkc]
  exact ch_other k (by omega)
theorem edges_succ : (formE l (i + 1)).edges = ((formE l i).edges ++ addA l i) ++ addC l i := by
 show (List.range (i + 1)).flatMap _ = _
 rw [List.range_succ, List.flatMap_append, List.flatMap_cons, List.flatMap_nil, List.append_nil, List.append_assoc]
 rfl
theorem addC_none (h : ¬ (((l.getD i evz).kind = 4 ∨ (l.getD i evz).kind = 7) ∧ (l.getD i evz).ok = false)) : addC l i = [] := by
 unfold addC
 rw [if_neg h]
theorem pk_succ (h6 : (l.getD i evz).kind ≠ 6) : (fun g => pkW l g (i + 1)) = (fun g => pkW l g i) := by
 funext g
 rw [pkW, if_neg (fun e => h6 e.1)]
theorem form_is {s : EdS} (h1 : s.edges = (formE l i).edges) (h2 : s.last = lastW l i) (h3 : s.rule = ruleW l i) (h4 : s.parks = fun g => pkW l g i) (h5 : s.chans = (List.range (makesR l i)).map (chU l i)) : s = formE l i := by
 obtain ⟨a, b, c, d, e⟩ := s
 dsimp only at h1 h2 h3 h4 h5
 subst h1 h2 h3 h4 h5
 rfl
set_option maxHeartbeats 1000000 in
theorem next_form (h : RtL l) (hi : i < l.length) : nextE l i (formE l i) = formE l (i + 1) := by
 unfold nextE
 by_cases h13 : (l.getD i evz).kind = 13
 ·rw [if_pos h13]
  refine form_is ?_ ?_ ?_ ?_ ?_
  ·rw [edges_succ, addC_none (by omega), List.append_nil]
   unfold addA
   rw [if_pos h13, List.append_nil]
  ·funext g
   show lastW l i g = _
   unfold lastW
   rw [ownF, spF, if_neg (fun e => e.1 h13), if_neg (fun e => by omega)]
  ·funext g
   show ruleW l i g = _
   unfold ruleW
   rw [ownF, spF, if_neg (fun e => e.1 h13), if_neg (fun e => by omega)]
  ·exact (pk_succ (by omega)).symm
  ·rw [mkR_same (by omega)]
   exact List.map_congr_left fun k _ => (ch_same (by omega) (.inl (by omega)) (by omega) (by omega) k).symm
 ·rw [if_neg h13, from_form h hi h13]
  obtain ⟨l1, l2⟩ := last_succ h hi h13
  obtain ⟨hr, _⟩ := h.parts hi
  unfold ownE kindE
  by_cases h1 : (l.getD i evz).kind = 1
  ·rw [if_pos h1]
   rw [if_pos h1] at l1 l2
   refine form_is ?_ l1.symm l2.symm (pk_succ (by omega)).symm ?_
   ·rw [edges_succ, addC_none (by omega), List.append_nil]
   ·rw [mkR_same (by omega)]
    exact List.map_congr_left fun k _ => (ch_same (by omega) (.inl (by omega)) (by omega) (by omega) k).symm
  ·rw [if_neg h1]
   rw [if_neg h1] at l1 l2
   by_cases h2 : (l.getD i evz).kind = 2
   ·rw [if_pos h2]
    refine form_is ?_ l1.symm l2.symm (pk_succ (by omega)).symm ?_
    ·rw [edges_succ, addC_none (by omega), List.append_nil]
    ·have hm := (h.made hi).1 h2
     have e : makesR l (i + 1) = makesR l i + 1 := by rw [makesR, if_pos h2]
     rw [e, List.range_succ, List.map_append]
     show (List.range (makesR l i)).map (chU l i) ++ _ = _
     congr 1
     ·exact List.map_congr_left fun k hk => (ch_other k (by rw [hm]; have := List.mem_range.1 hk; omega)).symm
     ·have n1 := h.mk_new (i := i) (c := (makesR l i : Nat)) (by omega) (Int.le_refl _)
      have n2 := h.cl_new (i := i) (c := (makesR l i : Nat)) (by omega) (Int.le_refl _)
      have n3 := fun s => h.done_new (i := i) (c := (makesR l i : Nat)) (s := s) (by omega) (Int.le_refl _)
      have n4 : ∀ s, doneO l (makesR l i : Nat) s i = [] := fun s => by unfold doneO; rw [if_pos (.inr ⟨by omega, .inl (by omega)⟩)]
      show [_] = [chU l (i + 1) (makesR l i)]
      unfold chU
      rw [clW_keep (fun e => by omega), n2, doneU, doneU, n3, n3, n4, n4, mkU, n1]
      dsimp only
      rw [if_pos ⟨h2, hm⟩]
      rfl
   ·rw [if_neg h2]
    by_cases h6 : (l.getD i evz).kind = 6
    ·rw [if_pos h6]
     refine form_is ?_ l1.symm l2.symm ?_ ?_
     ·rw [edges_succ, addC_none (by omega), List.append_nil]
     ·funext g
      show updN (fun g => pkW l g i) (l.getD i evz).g i g = _
      unfold updN
      rw [pkW]
      by_cases hg : g = (l.getD i evz).g
      ·rw [if_pos hg, if_pos ⟨h6, hg.symm⟩]
      ·rw [if_neg hg, if_neg (fun e => hg e.2.symm)]
     ·rw [mkR_same (by omega)]
      exact List.map_congr_left fun k _ => (ch_same (by omega) (.inl (by omega)) (by omega) (by omega) k).symm
    ·rw [if_neg h6]
     by_cases h5 : (l.getD i evz).kind = 5
     ·rw [if_pos h5]
      refine form_is ?_ l1.symm l2.symm (pk_succ h6).symm ?_
      ·rw [edges_succ, addC_none (by omega), List.append_nil]
      ·have hc0 := hr.cc (by omega)
       have hc1 := (h.made hi).2 (by omega)
       rw [mkR_same h2]
       refine set_range fun k hkm => ?_
       by_cases hkc : k = (l.getD i evz).chan.toNat
       ·rw [if_pos hkc]
        have hck : (l.getD i evz).chan = k := by omega
        show _ = { chAt ((List.range (makesR l i)).map (chU l i)) (l.getD i evz).chan with closed := i }
        unfold chAt
        rw [← hkc, get_range hkm]
        have n4 : ∀ s, doneO l k s i = [] := fun s => by unfold doneO; rw [if_pos (.inr ⟨by omega, .inl (by omega)⟩)]
        unfold chU
        rw [doneU, doneU, n4, n4, List.append_nil, List.append_nil, clF, if_pos ⟨h5, hck⟩, mkU_keep (fun e => h2 e.1)]
        rfl
       ·rw [if_neg hkc]
        exact ch_other k (by omega)
     ·rw [if_neg h5]
      by_cases h3 : (l.getD i evz).kind = 3
      ·rw [if_pos h3]
       refine form_is ?_ l1.symm l2.symm (pk_succ h6).symm ?_
       ·show (formE l i).edges ++ addA l i = _
        rw [edges_succ, addC_none (by omega), List.append_nil]
       ·exact move_form h hi (.inl h3)
      ·rw [if_neg h3]
       by_cases h4 : (l.getD i evz).kind = 4 ∨ (l.getD i evz).kind = 7
       ·rw [if_pos h4]
        by_cases ho : (l.getD i evz).ok = false
        ·rw [if_pos ho]
         obtain ⟨k, hk⟩ := h.ended hi h4 ho
         have hc0 := hr.cc (by omega)
         have hc1 := (h.made hi).2 h2
         refine form_is ?_ l1.symm l2.symm (pk_succ h6).symm ?_
         ·rw [edges_succ]
          show putL ((formE l i).edges ++ addA l i) (chAt ((List.range (makesR l i)).map (chU l i)) (l.getD i evz).chan).closed i 4 = _
          unfold chAt
          rw [get_range (show (l.getD i evz).chan.toNat < makesR l i by omega)]
          have hcl : (chU l i (l.getD i evz).chan.toNat).closed = k := by
           show (clF l ((l.getD i evz).chan.toNat : Nat) i).getD 0 = k
           rw [show (((l.getD i evz).chan.toNat : Nat) : Int) = (l.getD i evz).chan by omega, hk]
           rfl
          rw [hcl]
          unfold putL addC
          rw [if_pos (clW_some hk).1, if_pos ⟨h4, ho⟩, hk]
         ·rw [mkR_same h2]
          exact List.map_congr_left fun k _ => (ch_same h3 (.inr ho) h5 h2 k).symm
        ·rw [if_neg ho]
         have hot : (l.getD i evz).ok = true := by simpa using ho
         by_cases h44 : (l.getD i evz).kind = 4
         ·rw [if_pos h44]
          refine form_is ?_ l1.symm l2.symm (pk_succ h6).symm ?_
          ·show (formE l i).edges ++ addA l i = _
           rw [edges_succ, addC_none (fun e => ho e.2), List.append_nil]
          ·exact move_form h hi (.inr ⟨h44, hot⟩)
         ·rw [if_neg h44]
          refine form_is ?_ l1.symm l2.symm (pk_succ h6).symm ?_
          ·show (formE l i).edges ++ addA l i = _
           rw [edges_succ, addC_none (fun e => ho e.2), List.append_nil]
          ·rw [mkR_same h2]
           exact List.map_congr_left fun k _ => (ch_same h3 (.inl h44) h5 h2 k).symm
       ·rw [if_neg h4]
        refine form_is ?_ l1.symm l2.symm (pk_succ h6).symm ?_
        ·show (formE l i).edges ++ addA l i = _
         rw [edges_succ, addC_none (fun e => h4 e.1), List.append_nil]
        ·rw [mkR_same h2]
         exact List.map_congr_left fun k _ => (ch_same h3 (.inl (fun e => h4 (.inl e))) h5 h2 k).symm
theorem form_zero : edz = formE l 0 := by
 refine form_is rfl ?_ ?_ ?_ rfl
 ·funext g; rfl
 ·funext g; rfl
 ·funext g; rfl
theorem read_form (h : RtL l) : ∀ i, i ≤ l.length → readE l i = formE l i
 | 0, _ => form_zero
 | i + 1, hi => by rw [readE, read_form h i (by omega), next_form h (by omega)]
end
end Go.Proofs.YtoamjodmidbmbaaGreatDoor
namespace Go.Proofs.YtoamjodmidbmbaaGreatDoor
def oneC (x : Bool × Bool) : List Value := [.bool x.1, .bool x.2]
def crewC (cr : List (Bool × Bool)) : List Value := cr.flatMap oneC
theorem oneC_len (x : Bool × Bool) : (oneC x).length = 2 := rfl
theorem crewC_length (cr : List (Bool × Bool)) : (crewC cr).length = cr.length * 2 := flat_length oneC 2 oneC_len cr
theorem crewC_0 {cr : List (Bool × Bool)} {j : Nat} {a b : Bool} (h : cr[j]? = some (a, b)) : (crewC cr)[j * 2]? = some (.bool a) := by
 obtain ⟨hj, e⟩ := List.getElem?_eq_some_iff.1 h
 have := flat_get oneC 2 oneC_len cr j 0 (by decide) hj
 rw [e] at this
 exact this
theorem crewC_1 {cr : List (Bool × Bool)} {j : Nat} {a b : Bool} (h : cr[j]? = some (a, b)) : (crewC cr)[j * 2 + 1]? = some (.bool b) := by
 obtain ⟨hj, e⟩ := List.getElem?_eq_some_iff.1 h
 have := flat_get oneC 2 oneC_len cr j 1 (by decide) hj
 rw [e] at this
 exact this
theorem crewC_lt {cr : List (Bool × Bool)} {j : Nat} {a b : Bool} (h : cr[j]? = some (a, b)) : j * 2 < (crewC cr).length ∧ j * 2 + 1 < (crewC cr).length := by
 obtain ⟨hj, e⟩ := List.getElem?_eq_some_iff.1 h
 rw [crewC_length]
 omega
theorem crewC_set0 {cr : List (Bool × Bool)} {j : Nat} {a b : Bool} (c : Bool) (h : cr[j]? = some (a, b)) : (crewC cr).set (j * 2) (.bool c) = crewC (cr.set j (c, b)) := by
 obtain ⟨hj, e⟩ := List.getElem?_eq_some_iff.1 h
 exact flat_set oneC 2 oneC_len cr j 0 _ (c, b) hj (by decide) (by rw [e]; rfl)
theorem crewC_set1 {cr : List (Bool × Bool)} {j : Nat} {a b : Bool} (c : Bool) (h : cr[j]? = some (a, b)) : (crewC cr).set (j * 2 + 1) (.bool c) = crewC (cr.set j (a, c)) := by
 obtain ⟨hj, e⟩ := List.getElem?_eq_some_iff.1 h
 exact flat_set oneC 2 oneC_len cr j 1 _ (a, c) hj (by decide) (by rw [e]; rfl)
theorem crewC_app (cr : List (Bool × Bool)) : crewC cr ++ [.bool false, .bool false] = crewC (cr ++ [(false, false)]) := (flat_one oneC cr (false, false)).symm
end Go.Proofs.YtoamjodmidbmbaaGreatDoor
namespace Go.Proofs.YtoamjodmidbmbaaGreatDoor
open Go.RowKit
set_option maxRecDepth 100000
theorem g_serves {w : World} {F : List Piece} (H : SL w F) (e : Ev) : Calls Tryz.prog 112 #[e.agg] w fun o w' => o = .returned (.bool (servesF e)) ∧ SL w' F := by
 obtain ⟨kind, g, chan, case_, value, mate, send, ok⟩ := e
 refine calls_d (args := [_]) Tryz.func112 rfl ?_
 refine ⟨Nw.as #[.int .i64 kind, .int .i64 g, .int .i64 chan, .int .i64 case_, .int .i64 value, .int .i64 mate, .bool send, .bool ok] 53 rfl H fun b1 w H => ?_⟩
 refine ⟨H.ldi 0 rfl (v := .int .i64 mate) rfl ?_⟩
 refine BB.vr fun q1 e1 => ?_
 cases q1
 ·have h1 := of_decide_eq_false e1
  refine ret1 (.bool false) rfl (by rfl) ?_
  exact ⟨by simp [servesF, *], H.tl⟩
 have h1 := of_decide_eq_true e1
 refine H.ldi 0 rfl (v := .int .i64 kind) rfl (BB.vr fun q2 e2 => ?_)
 cases q2
 ·have h2 := neq_of e2
  refine H.ldi 0 rfl (v := .int .i64 kind) rfl (BB.k (ret1 (.bool (kind == 4)) rfl (by rfl) ?_))
  exact ⟨by simp [servesF, *], H.tl⟩
 have h2 := eq_of_beq e2
 subst h2
 refine ret1 (.bool true) rfl (by rfl) ?_
 exact ⟨by simp [servesF, *], H.tl⟩
@[reducible] def rdrRow (rb : Nat) (lv : Value) (at_ : Int) (crv : Value) (mb : Nat) (c : Ev) (over : Bool) : Piece := row rb #[lv, .int .i64 at_, crv, .map (some mb), .int .i64 c.kind, .int .i64 c.g, .int .i64 c.chan, .int .i64 c.case_, .int .i64 c.value, .int .i64 c.mate, .bool c.send, .bool c.ok, .bool over] 171
theorem set_at {α : Type} {l : List α} {j : Nat} {x : α} (h : l[j]? = some x) (y : α) : (l.set j y)[j]? = some y := by
 obtain ⟨hj, _⟩ := List.getElem?_eq_some_iff.1 h
 simp [hj]
set_option maxHeartbeats 1000000 in
theorem crewed_in {w : World} {F : List Piece} {rb cb mb cap gn : Nat} {lv : Value} {at_ : Int} {c : Ev} {cr : List (Bool × Bool)} {wa ex : Bool} {kind chan case_ value mate : Int} {send ok : Bool} (h13 : kind ≠ 13) (hx : cr[gn]? = some (wa, ex)) (hn : cr.length < 100000000)
  (H : SL w (row rb #[lv, .int .i64 at_, .slice (some ⟨cb, 0, none⟩) cr.length cap, .map (some mb), .int .i64 c.kind, .int .i64 c.g, .int .i64 c.chan, .int .i64 c.case_, .int .i64 c.value, .int .i64 c.mate, .bool c.send, .bool c.ok, .bool false] 171 :: Slc 237 2 (.slice (some ⟨cb, 0, none⟩) cr.length cap) cr.length (crewC cr) :: F)) (chans : List ChnM) :
  Calls Tryz.prog 148 #[.pointer (some ⟨rb, 0, none⟩), (Ev.mk kind gn chan case_ value mate send ok).agg] w fun o w' => o = .returned (.bool (crewedF ⟨cr, chans, c, false⟩ ⟨kind, gn, chan, case_, value, mate, send, ok⟩).1) ∧
   ∃ crv, SL w' (rdrRow rb lv at_ crv mb c (crewedF ⟨cr, chans, c, false⟩ ⟨kind, gn, chan, case_, value, mate, send, ok⟩).2.over :: Slc 237 2 crv (crewedF ⟨cr, chans, c, false⟩ ⟨kind, gn, chan, case_, value, mate, send, ok⟩).2.crew.length (crewC (crewedF ⟨cr, chans, c, false⟩ ⟨kind, gn, chan, case_, value, mate, send, ok⟩).2.crew) :: F) := by
 have hlt : gn < cr.length := (List.getElem?_eq_some_iff.1 hx).1
 refine calls_d (args := [_, _]) Tryz.func148 rfl ?_
 refine ⟨Nw.as #[.int .i64 kind, .int .i64 ↑gn, .int .i64 chan, .int .i64 case_, .int .i64 value, .int .i64 mate, .bool send, .bool ok] 53 rfl H fun b3 w H => ?_⟩
 refine ⟨⟨H.ldi 1 rfl (v := .bool false) rfl ?_⟩⟩
 refine BB.no rfl (Cn.no (⟨H.ldi 0 rfl (v := .int .i64 kind) rfl ?_⟩))
 refine BB.no (show (kind == 13) = false from beq_eq_false_iff_ne.2 h13) (Cn.no (⟨Drw.of [(0, true), (1, true), (2, true), (3, true), (4, true), (5, true), (6, true), (7, true), (8, true), (9, true), (10, true), (11, true), (12, true), (13, true), (14, true), (15, true), (16, true), (17, true), (18, true), (19, true)] (by kernel_rfl) mixed (fun w => SL w _) H.drew ?_⟩))
 replace H := H.drew
 refine LdC.i 0 rfl (v := .int .i64 ↑gn) rfl (LdC.i 1 rfl (v := .slice (some ⟨cb, 0, none⟩) cr.length cap) rfl (BB.no (decide_eq_false (show ¬ ((gn : Int) ≥ (cr.length : Int)) by omega)) (LdC.i 1 rfl (v := .slice (some ⟨cb, 0, none⟩) cr.length cap) rfl (LdC.i 0 rfl (v := .int .i64 ↑gn) rfl (Ix.at0 gn 2 (by kernel_rfl) (rfl) (hlt) ?_)))))
 refine LdC.S 2 rfl (v := .bool ex) (crewC_1 hx) (BB.k ?_)
 cases ex
 ·refine Cn.no (⟨Drw.of [(0, true), (1, true), (2, true), (3, true), (4, true), (5, true), (6, true), (7, true), (8, true), (9, true), (10, true), (11, true), (12, true), (13, true), (14, true), (15, true), (16, true), (17, true), (18, true)] (by kernel_rfl) mixed (fun w => SL w _) H.drew ?_⟩)
  replace H := H.drew
  refine LdC.i 0 rfl (v := .int .i64 kind) rfl (BB.vr fun q1 e1 => ?_)
  cases q1
  ·have h1 := bne_eq_false_iff_eq.1 e1
   subst h1
   refine Cn.no (⟨Drw.of [(0, true), (1, true), (2, true), (3, true), (4, true), (5, true), (6, true), (7, true)] (by kernel_rfl) mixed (fun w => SL w _) H.drew ?_⟩)
   replace H := H.drew
   refine LdC.i 1 rfl (v := .slice (some ⟨cb, 0, none⟩) cr.length cap) rfl (LdC.i 0 rfl (v := .int .i64 ↑gn) rfl (Ix.at0 gn 2 (by kernel_rfl) (rfl) (hlt) ?_))
   refine ⟨H.ldi 0 rfl (v := .int .i64 12) rfl ?_⟩
   refine BB.no rfl (SL.stS (o := gn * 2) (u := .bool false) H.up2 ((crewC_lt hx).1) rfl fun w H => ?_)
   rw [crewC_set0 _ hx] at H
   replace H := H.dn2
   refine ⟨H.ldi 0 rfl (v := .int .i64 12) rfl ?_⟩
   refine BB.no rfl (SL.stS (o := gn * 2 + 1) (u := .bool false) H.up2 ((crewC_lt (set_at hx _)).2) rfl fun w H => ?_)
   rw [crewC_set1 _ (set_at hx _), List.set_set] at H
   replace H := H.dn2
   refine ⟨H.ldi 0 rfl (v := .int .i64 12) rfl ?_⟩
   refine BB.yes rfl (H.st1 (cs' := #[lv, .int .i64 at_, .slice (some ⟨cb, 0, none⟩) cr.length cap, .map (some mb), .int .i64 c.kind, .int .i64 c.g, .int .i64 c.chan, .int .i64 c.case_, .int .i64 c.value, .int .i64 c.mate, .bool c.send, .bool c.ok, .bool true]) rfl rfl rfl fun w H => ?_)
   refine ⟨H.ldi 0 rfl (v := .int .i64 12) rfl ?_⟩
   refine BB.no rfl (Cn.no (⟨ret1 (.bool true) rfl (by rfl) ?_⟩))
   have hc : crewedF ⟨cr, chans, c, false⟩ ⟨12, ↑gn, chan, case_, value, mate, send, ok⟩ = (true, ⟨(cr.set gn (false, false)), chans, c, true⟩) := by
    unfold crewedF
    simp only [Int.toNat_natCast, hx]
    first | (simp [*]; done) | (cases wa <;> simp_all; done) | (cases wa <;> by_cases h7 : kind = 7 <;> simp_all)
   rw [hc]
   exact ⟨rfl, _, by simp only [List.length_set]; exact H.tl⟩
  have h1 := bne_iff_ne.1 e1
  refine LdC.i 1 rfl (v := .slice (some ⟨cb, 0, none⟩) cr.length cap) rfl (LdC.i 0 rfl (v := .int .i64 ↑gn) rfl (Ix.at0 gn 2 (by kernel_rfl) (rfl) (hlt) ?_))
  refine LdC.S 2 rfl (v := .bool wa) (crewC_0 hx) (BB.k (LdC.i 0 rfl (v := .int .i64 kind) rfl (BB.k (BB.vr fun q2 e2 => ?_))))
  cases q2
  ·refine Cn.no (⟨Drw.of [(0, true), (1, true), (2, true), (3, true), (4, true), (5, true), (6, true), (7, true)] (by kernel_rfl) mixed (fun w => SL w _) H.drew ?_⟩)
   replace H := H.drew
   refine LdC.i 1 rfl (v := .slice (some ⟨cb, 0, none⟩) cr.length cap) rfl (LdC.i 0 rfl (v := .int .i64 ↑gn) rfl (Ix.at0 gn 2 (by kernel_rfl) (rfl) (hlt) ?_))
   refine ⟨H.ldi 0 rfl (v := .int .i64 kind) rfl ?_⟩
   refine BB.k (SL.stS (o := gn * 2) (u := .bool (kind == 6)) H.up2 ((crewC_lt hx).1) rfl fun w H => ?_)
   rw [crewC_set0 _ hx] at H
   replace H := H.dn2
   refine ⟨H.ldi 0 rfl (v := .int .i64 kind) rfl ?_⟩
   refine BB.k (SL.stS (o := gn * 2 + 1) (u := .bool (kind == 11)) H.up2 ((crewC_lt (set_at hx _)).2) rfl fun w H => ?_)
   rw [crewC_set1 _ (set_at hx _), List.set_set] at H
   replace H := H.dn2
   refine ⟨H.ldi 0 rfl (v := .int .i64 kind) rfl ?_⟩
   refine BB.no (beq_eq_false_iff_ne.2 h1) (H.st1 (cs' := #[lv, .int .i64 at_, .slice (some ⟨cb, 0, none⟩) cr.length cap, .map (some mb), .int .i64 c.kind, .int .i64 c.g, .int .i64 c.chan, .int .i64 c.case_, .int .i64 c.value, .int .i64 c.mate, .bool c.send, .bool c.ok, .bool false]) rfl rfl rfl fun w H => ?_)
   refine ⟨H.ldi 0 rfl (v := .int .i64 kind) rfl ?_⟩
   refine BB.vr fun q3 e3 => ?_
   cases q3
   ·have h3 := neq_of e3
    refine Cn.no (⟨ret1 (.bool true) rfl (by rfl) ?_⟩)
    have hc : crewedF ⟨cr, chans, c, false⟩ ⟨kind, ↑gn, chan, case_, value, mate, send, ok⟩ = (true, ⟨(cr.set gn (kind == 6, kind == 11)), chans, c, false⟩) := by
     unfold crewedF
     simp only [Int.toNat_natCast, hx]
     first | (simp [*]; done) | (cases wa <;> simp_all; done) | (cases wa <;> by_cases h7 : kind = 7 <;> simp_all)
    rw [hc]
    exact ⟨rfl, _, by simp only [List.length_set]; exact H.tl⟩
   have h3 := eq_of_beq e3
   subst h3
   refine Cn.yes (⟨Drw.of [(0, true), (1, true), (2, true), (3, true), (4, true), (5, true), (6, true), (7, true)] (by kernel_rfl) mixed (fun w => SL w _) H.drew ?_⟩)
   replace H := H.drew
   refine LdC.i 0 rfl (v := .int .i64 mate) rfl (LdC.i 1 rfl (v := .slice (some ⟨cb, 0, none⟩) cr.length cap) rfl (BB.vr fun q4 e4 => ?_))
   cases q4
   ·have h4 := bne_eq_false_iff_eq.1 e4
    subst h4
    refine Cn.no (⟨H.ldi 1 rfl (v := .slice (some ⟨cb, 0, none⟩) cr.length cap) rfl ?_⟩)
    refine Mn.pure (.agg #[.bool false, .bool false]) (by kernel_rfl) ?_
    refine Mn.new (fun b => .slice (some ⟨b, 0, none⟩) 1 1) #[.bool false, .bool false] 237 (by kernel_rfl) H fun b96 w H => ?_
    refine SL.appS H.up3 (.tmp 94) (.tmp 96) 168 (.agg #[.bool false, .bool false]) 2 (by rfl) (by kernel_rfl) (by kernel_rfl) (by rfl) (by decide) (by rfl) (some ⟨b96, 0, none⟩) 1 1 [.bool false, .bool false] (by rfl) (H.rdRow 0 rfl (by rfl) (by decide)) (by rfl) (by omega) (by decide) (by decide) fun g5 c5 w H => ?_
    refine H.st3 (cs' := #[lv, .int .i64 at_, .slice (some ⟨g5, 0, none⟩) (cr.length + 1) c5, .map (some mb), .int .i64 c.kind, .int .i64 c.g, .int .i64 c.chan, .int .i64 c.case_, .int .i64 c.value, .int .i64 c.mate, .bool c.send, .bool c.ok, .bool false]) rfl rfl rfl fun w H => ?_
    refine ⟨ret1 (.bool true) rfl (by rfl) ?_⟩
    have hc : crewedF ⟨cr, chans, c, false⟩ ⟨1, ↑gn, chan, case_, value, ↑cr.length, send, ok⟩ = (true, ⟨(cr.set gn (1 == 6, 1 == 11) ++ [(false, false)]), chans, c, false⟩) := by
     unfold crewedF
     simp only [Int.toNat_natCast, hx]
     first | (simp [*]; done) | (cases wa <;> simp_all; done) | (cases wa <;> by_cases h7 : kind = 7 <;> simp_all)
    rw [hc]
    exact ⟨rfl, _, by rw [← crewC_app]; simp only [List.length_set, List.length_append, List.length_singleton]; exact H.drop1.drop1.up1⟩
   have h4 := bne_iff_ne.1 e4
   refine Cn.yes (⟨ret1 (.bool false) rfl (by rfl) ?_⟩)
   have hc : crewedF ⟨cr, chans, c, false⟩ ⟨1, ↑gn, chan, case_, value, mate, send, ok⟩ = (false, ⟨(cr.set gn (1 == 6, 1 == 11)), chans, c, false⟩) := by
    unfold crewedF
    simp only [Int.toNat_natCast, hx]
    first | (simp [*]; done) | (cases wa <;> simp_all; done) | (cases wa <;> by_cases h7 : kind = 7 <;> simp_all)
   rw [hc]
   exact ⟨rfl, _, by simp only [List.length_set]; exact H.tl⟩
  refine Cn.yes (⟨ret1 (.bool false) rfl (by rfl) ?_⟩)
  have hc : crewedF ⟨cr, chans, c, false⟩ ⟨kind, ↑gn, chan, case_, value, mate, send, ok⟩ = (false, ⟨cr, chans, c, false⟩) := by
   unfold crewedF
   simp only [Int.toNat_natCast, hx]
   first | (simp [*]; done) | (cases wa <;> simp_all; done) | (cases wa <;> by_cases h7 : kind = 7 <;> simp_all)
  rw [hc]
  exact ⟨rfl, _, by simp only [List.length_set]; exact H.tl⟩
 refine Cn.yes (⟨ret1 (.bool false) rfl (by rfl) ?_⟩)
 have hc : crewedF ⟨cr, chans, c, false⟩ ⟨kind, ↑gn, chan, case_, value, mate, send, ok⟩ = (false, ⟨cr, chans, c, false⟩) := by
  unfold crewedF
  simp only [Int.toNat_natCast, hx]
  first | (simp [*]; done) | (cases wa <;> simp_all; done) | (cases wa <;> by_cases h7 : kind = 7 <;> simp_all)
 rw [hc]
 exact ⟨rfl, _, by simp only [List.length_set]; exact H.tl⟩
theorem crewed_over {w : World} {F : List Piece} {rb cb mb cap gn : Nat} {lv crv : Value} {at_ : Int} {c : Ev} {cr : List (Bool × Bool)} {kind g chan case_ value mate : Int} {send ok : Bool} 
  (H : SL w (row rb #[lv, .int .i64 at_, crv, .map (some mb), .int .i64 c.kind, .int .i64 c.g, .int .i64 c.chan, .int .i64 c.case_, .int .i64 c.value, .int .i64 c.mate, .bool c.send, .bool c.ok, .bool true] 171 :: Slc 237 2 (crv) cr.length (crewC cr) :: F)) (chans : List ChnM) :
  Calls Tryz.prog 148 #[.pointer (some ⟨rb, 0, none⟩), (Ev.mk kind g chan case_ value mate send ok).agg] w fun o w' => o = .returned (.bool (crewedF ⟨cr, chans, c, true⟩ ⟨kind, g, chan, case_, value, mate, send, ok⟩).1) ∧
   ∃ crv, SL w' (rdrRow rb lv at_ crv mb c (crewedF ⟨cr, chans, c, true⟩ ⟨kind, g, chan, case_, value, mate, send, ok⟩).2.over :: Slc 237 2 crv (crewedF ⟨cr, chans, c, true⟩ ⟨kind, g, chan, case_, value, mate, send, ok⟩).2.crew.length (crewC (crewedF ⟨cr, chans, c, true⟩ ⟨kind, g, chan, case_, value, mate, send, ok⟩).2.crew) :: F) := by
 refine calls_d (args := [_, _]) Tryz.func148 rfl ?_
 refine ⟨Nw.as #[.int .i64 kind, .int .i64 g, .int .i64 chan, .int .i64 case_, .int .i64 value, .int .i64 mate, .bool send, .bool ok] 53 rfl H fun b3 w H => ?_⟩
 refine ⟨⟨H.ldi 1 rfl (v := .bool true) rfl ?_⟩⟩
 refine BB.yes rfl (Cn.yes (⟨ret1 (.bool false) rfl (by rfl) ?_⟩))
 have hc : crewedF ⟨cr, chans, c, true⟩ ⟨kind, g, chan, case_, value, mate, send, ok⟩ = (false, ⟨cr, chans, c, true⟩) := by
  rfl
 rw [hc]
 exact ⟨rfl, _, H.tl⟩
theorem crewed_13 {w : World} {F : List Piece} {rb cb mb cap gn : Nat} {lv crv : Value} {at_ : Int} {c : Ev} {cr : List (Bool × Bool)} {kind g chan case_ value mate : Int} {send ok : Bool} 
  (H : SL w (row rb #[lv, .int .i64 at_, crv, .map (some mb), .int .i64 c.kind, .int .i64 c.g, .int .i64 c.chan, .int .i64 c.case_, .int .i64 c.value, .int .i64 c.mate, .bool c.send, .bool c.ok, .bool false] 171 :: Slc 237 2 (crv) cr.length (crewC cr) :: F)) (chans : List ChnM) :
  Calls Tryz.prog 148 #[.pointer (some ⟨rb, 0, none⟩), (Ev.mk 13 g chan case_ value mate send ok).agg] w fun o w' => o = .returned (.bool (crewedF ⟨cr, chans, c, false⟩ ⟨13, g, chan, case_, value, mate, send, ok⟩).1) ∧
   ∃ crv, SL w' (rdrRow rb lv at_ crv mb c (crewedF ⟨cr, chans, c, false⟩ ⟨13, g, chan, case_, value, mate, send, ok⟩).2.over :: Slc 237 2 crv (crewedF ⟨cr, chans, c, false⟩ ⟨13, g, chan, case_, value, mate, send, ok⟩).2.crew.length (crewC (crewedF ⟨cr, chans, c, false⟩ ⟨13, g, chan, case_, value, mate, send, ok⟩).2.crew) :: F) := by
 refine calls_d (args := [_, _]) Tryz.func148 rfl ?_
 refine ⟨Nw.as #[.int .i64 13, .int .i64 g, .int .i64 chan, .int .i64 case_, .int .i64 value, .int .i64 mate, .bool send, .bool ok] 53 rfl H fun b3 w H => ?_⟩
 refine ⟨⟨H.ldi 1 rfl (v := .bool false) rfl ?_⟩⟩
 refine BB.no rfl (Cn.no (⟨H.ldi 0 rfl (v := .int .i64 13) rfl ?_⟩))
 refine BB.yes rfl (Cn.yes (⟨ret1 (.bool true) rfl (by rfl) ?_⟩))
 have hc : crewedF ⟨cr, chans, c, false⟩ ⟨13, g, chan, case_, value, mate, send, ok⟩ = (true, ⟨cr, chans, c, false⟩) := by
  rfl
 rw [hc]
 exact ⟨rfl, _, H.tl⟩
theorem crewed_none {w : World} {F : List Piece} {rb cb mb cap gn : Nat} {lv crv : Value} {at_ : Int} {c : Ev} {cr : List (Bool × Bool)} {kind g chan case_ value mate : Int} {send ok : Bool} (h13 : kind ≠ 13) (hx : cr.length ≤ gn)
  (H : SL w (row rb #[lv, .int .i64 at_, .slice (some ⟨cb, 0, none⟩) cr.length cap, .map (some mb), .int .i64 c.kind, .int .i64 c.g, .int .i64 c.chan, .int .i64 c.case_, .int .i64 c.value, .int .i64 c.mate, .bool c.send, .bool c.ok, .bool false] 171 :: Slc 237 2 (.slice (some ⟨cb, 0, none⟩) cr.length cap) cr.length (crewC cr) :: F)) (chans : List ChnM) :
  Calls Tryz.prog 148 #[.pointer (some ⟨rb, 0, none⟩), (Ev.mk kind ↑gn chan case_ value mate send ok).agg] w fun o w' => o = .returned (.bool (crewedF ⟨cr, chans, c, false⟩ ⟨kind, ↑gn, chan, case_, value, mate, send, ok⟩).1) ∧
   ∃ crv, SL w' (rdrRow rb lv at_ crv mb c (crewedF ⟨cr, chans, c, false⟩ ⟨kind, ↑gn, chan, case_, value, mate, send, ok⟩).2.over :: Slc 237 2 crv (crewedF ⟨cr, chans, c, false⟩ ⟨kind, ↑gn, chan, case_, value, mate, send, ok⟩).2.crew.length (crewC (crewedF ⟨cr, chans, c, false⟩ ⟨kind, ↑gn, chan, case_, value, mate, send, ok⟩).2.crew) :: F) := by
 refine calls_d (args := [_, _]) Tryz.func148 rfl ?_
 refine ⟨Nw.as #[.int .i64 kind, .int .i64 ↑gn, .int .i64 chan, .int .i64 case_, .int .i64 value, .int .i64 mate, .bool send, .bool ok] 53 rfl H fun b3 w H => ?_⟩
 refine ⟨⟨H.ldi 1 rfl (v := .bool false) rfl ?_⟩⟩
 refine BB.no rfl (Cn.no (⟨H.ldi 0 rfl (v := .int .i64 kind) rfl ?_⟩))
 refine BB.no (show (kind == 13) = false from beq_eq_false_iff_ne.2 h13) (Cn.no (⟨Drw.of [(0, true), (1, true), (2, true), (3, true), (4, true), (5, true), (6, true), (7, true), (8, true), (9, true), (10, true), (11, true), (12, true), (13, true), (14, true), (15, true), (16, true), (17, true), (18, true), (19, true)] (by kernel_rfl) mixed (fun w => SL w _) H.drew ?_⟩))
 replace H := H.drew
 refine LdC.i 0 rfl (v := .int .i64 ↑gn) rfl (LdC.i 1 rfl (v := .slice (some ⟨cb, 0, none⟩) cr.length cap) rfl (BB.yes (decide_eq_true (show (gn : Int) ≥ (cr.length : Int) by omega)) (Cn.yes (⟨ret1 (.bool false) rfl (by rfl) ?_⟩))))
 have hc : crewedF ⟨cr, chans, c, false⟩ ⟨kind, ↑gn, chan, case_, value, mate, send, ok⟩ = (false, ⟨cr, chans, c, false⟩) := by
  simp [crewedF, h13, List.getElem?_eq_none hx]
 rw [hc]
 exact ⟨rfl, _, H.tl⟩
end Go.Proofs.YtoamjodmidbmbaaGreatDoor
namespace Go.Proofs.YtoamjodmidbmbaaGreatDoor
open Go.RowKit
structure EvB (e : Ev) : Prop where
 kind : 1 ≤ e.kind ∧ e.kind ≤ 13
 g : -1 ≤ e.g ∧ e.g ≤ 511
 g0 : e.kind ≠ 13 → 0 ≤ e.g
 chan : -1 ≤ e.chan ∧ e.chan ≤ 511
 mate : -1 ≤ e.mate ∧ e.mate ≤ 511
 value : -1 ≤ e.value ∧ e.value ≤ 99
def chP (p : Nat) (c : ChnM) : Piece := exP fun v => all [row p #[.int .i64 c.size, v, .bool c.closed] 241, Qu 3 1 v c.buf.length (ints c.buf)]
def chMap (ps : List Nat) : Int → Option Value := fun c => if c < 0 then none else (ps[c.toNat]?).map fun p => .pointer (some ⟨p, 0, none⟩)
def chsP (ps : List Nat) (cs : List ChnM) : Piece := all (List.zipWith chP ps cs)
theorem chMap_none {ps : List Nat} {cs : List ChnM} (hl : ps.length = cs.length) {r : RdrM} (hr : r.chans = cs) {c : Int} (h : chanF r c = none) : chMap ps c = none := by
 unfold chanF at h
 unfold chMap
 split
 ·rfl
 ·rename_i h0
  rw [if_neg h0, hr] at h
  rw [List.getElem?_eq_none (by rw [hl]; exact List.getElem?_eq_none_iff.1 h)]
  rfl
theorem chMap_some {ps : List Nat} {cs : List ChnM} (hl : ps.length = cs.length) {r : RdrM} (hr : r.chans = cs) {c : Int} {x : ChnM} (h : chanF r c = some x) : ∃ (k : Nat) (p : Nat), c = (k : Int) ∧ cs[k]? = some x ∧ ps[k]? = some p ∧ chMap ps c = some (.pointer (some ⟨p, 0, none⟩)) := by
 unfold chanF at h
 unfold chMap
 split at h
 ·cases h
 ·rename_i h0
  rw [if_neg h0]
  rw [hr] at h
  obtain ⟨hk, e⟩ := List.getElem?_eq_some_iff.1 h
  refine ⟨c.toNat, ps[c.toNat]'(by omega), by omega, h, by simp, ?_⟩
  rw [List.getElem?_eq_getElem (by omega)]
  rfl
theorem chMap_snoc (ps : List Nat) (b : Nat) : upd (chMap ps) (ps.length : Int) (some (.pointer (some ⟨b, 0, none⟩))) = chMap (ps ++ [b]) := by
 funext c
 unfold upd chMap
 by_cases h : c = (ps.length : Int)
 ·subst h
  simp
 ·rw [if_neg h]
  split
  ·rfl
  ·rename_i h0
   rcases Nat.lt_or_ge c.toNat ps.length with h1 | h1
   ·rw [List.getElem?_append_left h1]
   ·rw [List.getElem?_eq_none h1, List.getElem?_eq_none (by simp; omega)]
theorem chMap_new (ps : List Nat) : chMap ps (ps.length : Int) = none := by
 unfold chMap
 split
 ·rfl
 ·simp
section
variable {w : World} {F : List Piece} {ps : List Nat} {cs : List ChnM} {k p : Nat} {x y : ChnM}
theorem chs_take (hl : ps.length = cs.length) (hp : ps[k]? = some p) (hx : cs[k]? = some x) (H : SL w (chsP ps cs :: F)) : ∃ v, SL w (row p #[.int .i64 x.size, v, .bool x.closed] 241 :: Qu 3 1 v x.buf.length (ints x.buf) :: all ((List.zipWith chP ps cs).eraseIdx k) :: F) := by
 have h := allq_take (A := chP p x) k (by rw [List.getElem?_zipWith, hp, hx]) H
 obtain ⟨v, h⟩ := SL.exP.1 h
 exact ⟨v, SL.all.1 h⟩
theorem chs_put (hl : ps.length = cs.length) (hp : ps[k]? = some p) (hx : cs[k]? = some x) {v : Value} (H : SL w (row p #[.int .i64 y.size, v, .bool y.closed] 241 :: Qu 3 1 v y.buf.length (ints y.buf) :: all ((List.zipWith chP ps cs).eraseIdx k) :: F)) : SL w (chsP ps (cs.set k y) :: F) := by
 have h : SL w (chP p y :: all ((List.zipWith chP ps cs).eraseIdx k) :: F) := SL.exP.2 ⟨v, SL.all.2 H⟩
 obtain ⟨hk, _⟩ := List.getElem?_eq_some_iff.1 hp
 have h2 := allq_put k (by rw [List.length_zipWith]; omega) h
 have e : (List.zipWith chP ps cs).set k (chP p y) = List.zipWith chP ps (cs.set k y) := by
  apply List.ext_getElem?
  intro i
  rw [List.getElem?_zipWith, List.getElem?_set]
  by_cases hi : k = i
  ·subst hi
   rw [if_pos rfl, List.length_zipWith, if_pos (by omega), hp, List.getElem?_set_self (by omega)]
  ·rw [if_neg hi, List.getElem?_zipWith, List.getElem?_set_ne hi]
 rw [e] at h2
 exact h2
theorem chs_snoc (hl : ps.length = cs.length) {b : Nat} {v : Value} (H : SL w (row b #[.int .i64 y.size, v, .bool y.closed] 241 :: Qu 3 1 v y.buf.length (ints y.buf) :: chsP ps cs :: F)) : SL w (chsP (ps ++ [b]) (cs ++ [y]) :: F) := by
 have h : SL w (chP b y :: chsP ps cs :: F) := SL.exP.2 ⟨v, SL.all.2 H⟩
 unfold chsP
 rw [List.zipWith_append hl]
 refine SL.all.2 ?_
 have h2 := SL.all.1 h.up1
 have h3 := h2.perm (List.perm_middle (a := chP b y) (l₁ := List.zipWith chP ps cs) (l₂ := F))
 rw [List.append_assoc]
 exact h2
end
def RdrP (rb : Nat) (lv : Value) (at_ : Int) (r : RdrM) : Piece := exP fun (x : Value × Nat × List Nat) => andP (x.2.2.length = r.chans.length)
 (all [rdrRow rb lv at_ x.1 x.2.1 r.closer r.over, Slc 237 2 x.1 r.crew.length (crewC r.crew), MapP 3 x.2.1 r.chans.length (chMap x.2.2), chsP x.2.2 r.chans])
theorem RdrP.iff {w : World} {F : List Piece} {rb : Nat} {lv : Value} {at_ : Int} {r : RdrM} : SL w (RdrP rb lv at_ r :: F) ↔ ∃ crv mb ps, ps.length = r.chans.length ∧
  SL w (rdrRow rb lv at_ crv mb r.closer r.over :: Slc 237 2 crv r.crew.length (crewC r.crew) :: MapP 3 mb r.chans.length (chMap ps) :: chsP ps r.chans :: F) := by
 constructor
 ·intro h
  obtain ⟨⟨crv, mb, ps⟩, h⟩ := SL.exP.1 h
  obtain ⟨h1, h⟩ := SL.andP.1 h
  exact ⟨crv, mb, ps, h1, SL.all.1 h⟩
 ·rintro ⟨crv, mb, ps, h1, h⟩
  exact SL.exP.2 ⟨(crv, mb, ps), SL.andP.2 ⟨h1, SL.all.2 h⟩⟩
structure Sized (n : Nat) (r : RdrM) : Prop where
 pos : 0 < r.crew.length
 crew : r.crew.length ≤ n + 1
 chans : r.chans.length ≤ n
 buf : ∀ c ∈ r.chans, c.buf.length ≤ n
theorem g_crewed {w : World} {F : List Piece} {rb n : Nat} {lv : Value} {at_ : Int} {r : RdrM} {e : Ev} (B : EvB e) (hs : Sized n r) (hn : n < 1000000) (H : SL w (RdrP rb lv at_ r :: F)) :
  Calls Tryz.prog 148 #[.pointer (some ⟨rb, 0, none⟩), e.agg] w fun o w' => o = .returned (.bool (crewedF r e).1) ∧ SL w' (RdrP rb lv at_ (crewedF r e).2 :: F) := by
 obtain ⟨crv, mb, ps, hl, H⟩ := RdrP.iff.1 H
 obtain ⟨g, cap, hv⟩ : ∃ g c, crv = .slice (some ⟨g, 0, none⟩) r.crew.length c := by
  obtain ⟨S, _, h⟩ := H.tl.on
  obtain ⟨a, c, e⟩ := own_form h.1
  rw [e] at h
  obtain ⟨g, e2⟩ := own_some h.1 hs.pos
  exact ⟨g, c, by rw [e, e2]⟩
 have hch : (crewedF r e).2.chans = r.chans ∧ (crewedF r e).2.closer = r.closer := by
  unfold crewedF
  repeat' split
  all_goals exact ⟨rfl, rfl⟩
 obtain ⟨cr, chans, c, over⟩ := r
 obtain ⟨kind, gg, chan, case_, value, mate, send, ok⟩ := e
 have close : ∀ o w', (o = Ending.returned (.bool (crewedF ⟨cr, chans, c, over⟩ ⟨kind, gg, chan, case_, value, mate, send, ok⟩).1) ∧ ∃ crv, SL w' (rdrRow rb lv at_ crv mb c (crewedF ⟨cr, chans, c, over⟩ ⟨kind, gg, chan, case_, value, mate, send, ok⟩).2.over :: Slc 237 2 crv (crewedF ⟨cr, chans, c, over⟩ ⟨kind, gg, chan, case_, value, mate, send, ok⟩).2.crew.length (crewC (crewedF ⟨cr, chans, c, over⟩ ⟨kind, gg, chan, case_, value, mate, send, ok⟩).2.crew) :: MapP 3 mb chans.length (chMap ps) :: chsP ps chans :: F)) →
   o = .returned (.bool (crewedF ⟨cr, chans, c, over⟩ ⟨kind, gg, chan, case_, value, mate, send, ok⟩).1) ∧ SL w' (RdrP rb lv at_ (crewedF ⟨cr, chans, c, over⟩ ⟨kind, gg, chan, case_, value, mate, send, ok⟩).2 :: F) := by
  rintro o w' ⟨h1, crv, h2⟩
  refine ⟨h1, RdrP.iff.2 ⟨crv, mb, ps, ?_, ?_⟩⟩
  ·rw [hch.1]
   exact hl
  ·rw [hch.1, hch.2]
   exact h2
 dsimp only at hl H hv
 subst hv
 cases over
 ·by_cases h13 : kind = 13
  ·subst h13
   exact (crewed_13 (gn := 0) (cb := 0) (cap := 0) (kind := 0) H chans).mono close
  ·have h0 := B.g0 h13
   dsimp only at h0
   obtain ⟨gn, rfl⟩ := Int.eq_ofNat_of_zero_le h0
   cases hx : cr[gn]? with
   | none => exact (crewed_none (crv := .nilFunc) (g := 0) h13 (List.getElem?_eq_none_iff.1 hx) H chans).mono close
   | some x =>
    obtain ⟨wa, ex⟩ := x
    exact (crewed_in h13 hx (Nat.lt_of_le_of_lt hs.crew (by omega)) H chans).mono close
 ·exact (crewed_over (gn := 0) (cb := 0) (cap := 0) H chans).mono close
def mapI (m : Int → Option Nat) : Int → Option Value := fun k => (m k).map fun v => .int .i64 (v : Int)
theorem mapI_upd (m : Int → Option Nat) (k : Int) (v : Nat) : upd (mapI m) k (some (.int .i64 (v : Int))) = mapI (updN m k v) := by
 funext x
 unfold upd mapI updN
 split <;> rfl
theorem mapI_get (m : Int → Option Nat) (k : Int) : (mapI m k).getD (.int .i64 0) = .int .i64 (((m k).getD 0 : Nat) : Int) := by
 unfold mapI
 cases m k <;> rfl
def prc (p : Nat × Nat) : List Value := [.int .i64 (p.1 : Int), .int .i64 (p.2 : Int)]
def ptrs (ps : List Nat) : List Value := ps.map fun p => .pointer (some ⟨p, 0, none⟩)
def chE (p : Nat) (c : ChE) : Piece := exP fun (v : Value × Value) => all [row p #[.int .i64 (c.size : Int), v.1, v.2, .int .i64 (c.closed : Int)] 129, Slc 131 2 v.1 c.ins.length (c.ins.flatMap prc), Slc 131 2 v.2 c.outs.length (c.outs.flatMap prc)]
def chsE (ps : List Nat) (cs : List ChE) : Piece := all (List.zipWith chE ps cs)
theorem ptrs_at {ps : List Nat} {k p : Nat} (h : ps[k]? = some p) : (ptrs ps)[k * 1]? = some (.pointer (some ⟨p, 0, none⟩)) := by
 unfold ptrs
 rw [Nat.mul_one, List.getElem?_map, h]
 rfl
section
variable {w : World} {F : List Piece} {ps : List Nat} {cs : List ChE} {k p : Nat} {x y : ChE}
theorem chs_takeE (hp : ps[k]? = some p) (hx : cs[k]? = some x) (H : SL w (chsE ps cs :: F)) : ∃ u v, SL w (row p #[.int .i64 (x.size : Int), u, v, .int .i64 (x.closed : Int)] 129 :: Slc 131 2 u x.ins.length (x.ins.flatMap prc) :: Slc 131 2 v x.outs.length (x.outs.flatMap prc) :: all ((List.zipWith chE ps cs).eraseIdx k) :: F) := by
 have h := allq_take (A := chE p x) k (by rw [List.getElem?_zipWith, hp, hx]) H
 obtain ⟨v, h⟩ := SL.exP.1 h
 exact ⟨v.1, v.2, SL.all.1 h⟩
theorem chs_putE (hp : ps[k]? = some p) (hx : cs[k]? = some x) {u v : Value} (H : SL w (row p #[.int .i64 (y.size : Int), u, v, .int .i64 (y.closed : Int)] 129 :: Slc 131 2 u y.ins.length (y.ins.flatMap prc) :: Slc 131 2 v y.outs.length (y.outs.flatMap prc) :: all ((List.zipWith chE ps cs).eraseIdx k) :: F)) : SL w (chsE ps (cs.set k y) :: F) := by
 have h : SL w (chE p y :: all ((List.zipWith chE ps cs).eraseIdx k) :: F) := SL.exP.2 ⟨(u, v), SL.all.2 H⟩
 obtain ⟨hk, _⟩ := List.getElem?_eq_some_iff.1 hp
 obtain ⟨hk2, _⟩ := List.getElem?_eq_some_iff.1 hx
 have h2 := allq_put k (by rw [List.length_zipWith]; omega) h
 have e : (List.zipWith chE ps cs).set k (chE p y) = List.zipWith chE ps (cs.set k y) := by
  apply List.ext_getElem?
  intro i
  rw [List.getElem?_zipWith, List.getElem?_set]
  by_cases hi : k = i
  ·subst hi
   rw [if_pos rfl, List.length_zipWith, if_pos (by omega), hp, List.getElem?_set_self (by omega)]
  ·rw [if_neg hi, List.getElem?_zipWith, List.getElem?_set_ne hi]
 rw [e] at h2
 exact h2
theorem chs_snocE (hl : ps.length = cs.length) {b : Nat} {u v : Value} (H : SL w (row b #[.int .i64 (y.size : Int), u, v, .int .i64 (y.closed : Int)] 129 :: Slc 131 2 u y.ins.length (y.ins.flatMap prc) :: Slc 131 2 v y.outs.length (y.outs.flatMap prc) :: chsE ps cs :: F)) : SL w (chsE (ps ++ [b]) (cs ++ [y]) :: F) := by
 have h : SL w (chE b y :: chsE ps cs :: F) := SL.exP.2 ⟨(u, v), SL.all.2 H⟩
 unfold chsE
 rw [List.zipWith_append hl]
 refine SL.all.2 ?_
 have h2 := SL.all.1 h.up1
 rw [List.append_assoc]
 exact h2
theorem slc_pair {v : Value} {n : Nat} {L : List (Nat × Nat)} {a b : Nat} (hn : L.length = n) (H : SL w (Slc 131 2 v (n + 1) (L.flatMap prc ++ [.int .i64 (a : Int), .int .i64 (b : Int)]) :: F)) : SL w (Slc 131 2 v (L ++ [(a, b)]).length ((L ++ [(a, b)]).flatMap prc) :: F) := by
 rw [List.length_append, hn, List.flatMap_append]
 exact H
theorem pair_at {L : List (Nat × Nat)} {j : Nat} {q : Nat × Nat} (h : L[j]? = some q) : (L.flatMap prc)[j * 2]? = some (.int .i64 (q.1 : Int)) ∧ (L.flatMap prc)[j * 2 + 1]? = some (.int .i64 (q.2 : Int)) := by
 induction L generalizing j with
 | nil => cases h
 | cons x L ih =>
  rw [List.flatMap_cons]
  cases j with
  | zero =>
   injection h with h
   subst h
   exact ⟨rfl, rfl⟩
  | succ j =>
   have := ih (j := j) h
   rw [List.getElem?_append_right (by show 2 ≤ _; omega), List.getElem?_append_right (by show 2 ≤ _; omega)]
   rw [show (j + 1) * 2 - (prc x).length = j * 2 by show (j + 1) * 2 - 2 = _; omega, show (j + 1) * 2 + 1 - (prc x).length = j * 2 + 1 by show (j + 1) * 2 + 1 - 2 = _; omega]
   exact this
end
def EdP (rb : Nat) (lv : Value) (i : Nat) (s : EdS) : Piece := exP fun (x : (Value × Value) × (Nat × Nat × Nat) × (Nat × Nat × Nat) × List Nat) => andP (x.2.2.2.length = s.chans.length ∧ x.2.2.1.1 ≤ 2 * i ∧ x.2.2.1.2.1 ≤ 2 * i ∧ x.2.2.1.2.2 ≤ i)
 (all [row rb #[lv, x.1.1, .map (some x.2.1.1), .map (some x.2.1.2.1), .map (some x.2.1.2.2), x.1.2] 75, Slc 70 3 x.1.1 s.edges.length (s.edges.flatMap Edg.cells), MapP 3 x.2.1.1 x.2.2.1.1 (mapI s.last), MapP 3 x.2.1.2.1 x.2.2.1.2.1 (mapI s.rule), MapP 3 x.2.1.2.2 x.2.2.1.2.2 (mapI s.parks), Slc 77 1 x.1.2 s.chans.length (ptrs x.2.2.2), chsE x.2.2.2 s.chans])
theorem EdP.iff {w : World} {F : List Piece} {rb i : Nat} {lv : Value} {s : EdS} : SL w (EdP rb lv i s :: F) ↔ ∃ ev cv ml mr mp n1 n2 n3 ps, (ps.length = s.chans.length ∧ n1 ≤ 2 * i ∧ n2 ≤ 2 * i ∧ n3 ≤ i) ∧
  SL w (row rb #[lv, ev, .map (some ml), .map (some mr), .map (some mp), cv] 75 :: Slc 70 3 ev s.edges.length (s.edges.flatMap Edg.cells) :: MapP 3 ml n1 (mapI s.last) :: MapP 3 mr n2 (mapI s.rule) :: MapP 3 mp n3 (mapI s.parks) :: Slc 77 1 cv s.chans.length (ptrs ps) :: chsE ps s.chans :: F) := by
 constructor
 ·intro h
  obtain ⟨⟨⟨ev, cv⟩, ⟨ml, mr, mp⟩, ⟨n1, n2, n3⟩, ps⟩, h⟩ := SL.exP.1 h
  obtain ⟨h1, h⟩ := SL.andP.1 h
  exact ⟨ev, cv, ml, mr, mp, n1, n2, n3, ps, h1, SL.all.1 h⟩
 ·rintro ⟨ev, cv, ml, mr, mp, n1, n2, n3, ps, h1, h⟩
  exact SL.exP.2 ⟨⟨⟨ev, cv⟩, ⟨ml, mr, mp⟩, ⟨n1, n2, n3⟩, ps⟩, SL.andP.2 ⟨h1, SL.all.2 h⟩⟩
section
variable {l : List Ev} {i : Nat} {e : Ev} {s : EdS}
theorem kindE_1 (h : e.kind = 1) : kindE l i e s = { s with last := updN s.last e.mate i, rule := updN s.rule e.mate 2 } := by unfold kindE; rw [if_pos h]
theorem kindE_2 (h : e.kind = 2) : kindE l i e s = { s with chans := s.chans ++ [⟨e.value.toNat, [], [], 0⟩] } := by unfold kindE; rw [if_neg (by omega), if_pos h]
theorem kindE_6 (h : e.kind = 6) : kindE l i e s = { s with parks := updN s.parks e.g i } := by unfold kindE; rw [if_neg (by omega), if_neg (by omega), if_pos h]
theorem kindE_5 (h : e.kind = 5) : kindE l i e s = { s with chans := s.chans.set e.chan.toNat { chAt s.chans e.chan with closed := i } } := by unfold kindE; rw [if_neg (by omega), if_neg (by omega), if_neg (by omega), if_pos h]
theorem kindE_3 (h : e.kind = 3) : kindE l i e s = movE l i e s := by unfold kindE; rw [if_neg (by omega), if_neg (by omega), if_neg (by omega), if_neg (by omega), if_pos h]
theorem kindE_no (h : e.kind = 4 ∨ e.kind = 7) (ho : e.ok = false) : kindE l i e s = { s with edges := putL s.edges (chAt s.chans e.chan).closed i 4 } := by unfold kindE; rw [if_neg (by omega), if_neg (by omega), if_neg (by omega), if_neg (by omega), if_neg (by omega), if_pos h, if_pos ho]
theorem kindE_4 (h : e.kind = 4) (ho : e.ok = true) : kindE l i e s = movE l i e s := by unfold kindE; rw [if_neg (by omega), if_neg (by omega), if_neg (by omega), if_neg (by omega), if_neg (by omega), if_pos (.inl h), if_neg (by rw [ho]; decide), if_pos h]
theorem kindE_7 (h : e.kind = 7) (ho : e.ok = true) : kindE l i e s = s := by unfold kindE; rw [if_neg (by omega), if_neg (by omega), if_neg (by omega), if_neg (by omega), if_neg (by omega), if_pos (.inr h), if_neg (by rw [ho]; decide), if_neg (by omega)]
theorem kindE_no1 (h : e.kind ≠ 1 ∧ e.kind ≠ 2 ∧ e.kind ≠ 6 ∧ e.kind ≠ 5 ∧ e.kind ≠ 3 ∧ e.kind ≠ 4 ∧ e.kind ≠ 7) : kindE l i e s = s := by unfold kindE; rw [if_neg h.1, if_neg h.2.1, if_neg h.2.2.1, if_neg h.2.2.2.1, if_neg h.2.2.2.2.1, if_neg (by omega)]
end
section
variable {l : List Ev} {i : Nat} {e : Ev} {s : EdS} {w : World} {F : List Piece}
theorem nextE_13 (hd : l.getD i evz = e) (h : e.kind = 13) : nextE l i s = s := by unfold nextE; rw [hd, if_pos h]
theorem nextE_no (hd : l.getD i evz = e) (h : e.kind ≠ 13) : nextE l i s = kindE l i e (ownE i e (fromE i e s)) := by unfold nextE; rw [hd, if_neg h]
theorem map_fix {kt b n : Nat} {m : Int → Option Nat} {k : Int} {v : Nat} (H : SL w (MapP kt b (if ((mapI m) k).isSome = true then n else n + 1) (upd (mapI m) k (some (.int .i64 (v : Int)))) :: F)) : ∃ n', n' ≤ n + 1 ∧ SL w (MapP kt b n' (mapI (updN m k v)) :: F) := by
 rw [mapI_upd] at H
 refine ⟨_, ?_, H⟩
 split <;> omega
theorem putL_len (es : List Edg) (f t r : Nat) : (putL es f t r).length ≤ es.length + 1 := by
 unfold putL
 split
 ·simp
 ·omega
theorem chAt_is {cs : List ChE} {k : Nat} {c : ChE} {chan : Int} (hk : chan = (k : Int)) (hc : cs[k]? = some c) : chAt cs chan = c := by
 subst hk
 unfold chAt
 rw [List.getD_eq_getElem?_getD, Int.toNat_natCast, hc]
 rfl
theorem set_back {cs : List ChE} {k : Nat} {c : ChE} (hc : cs[k]? = some c) : cs.set k c = cs := by
 obtain ⟨h, rfl⟩ := List.getElem?_eq_some_iff.1 hc
 exact List.set_getElem_self h
theorem ptrs_snoc (ps : List Nat) (b : Nat) : ptrs ps ++ [.pointer (some ⟨b, 0, none⟩)] = ptrs (ps ++ [b]) := by
 unfold ptrs
 rw [List.map_append]
 rfl
end
end Go.Proofs.YtoamjodmidbmbaaGreatDoor
