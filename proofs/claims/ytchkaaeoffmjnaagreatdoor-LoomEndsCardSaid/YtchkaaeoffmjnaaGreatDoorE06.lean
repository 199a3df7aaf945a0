/- Texts of the proof, several in one file: ForkC, ForkD, Crew, CrewB, Ref11, LoomP, Names, SxR, Loom1, ForkE. -/
import Derived.Test.YtchkaaeoffmjnaaGreatDoorE05
import Derived.Test.YtchkaaeoffmjnaaGreatDoorE01
import Derived.Deep.DeepMust
import Derived.Deep.QuietTactic
import Derived.BigQuiet
import Derived.Test.YtchkaaeoffmjnaaGreatDoorE03
namespace Go.Proofs.YtchkaaeoffmjnaaGreatDoor
set_option linter.unusedVariables false
set_option linter.unusedSimpArgs false
open Go.RowKit
def AllInv (n : Nat) (M : List PipeM) : Prop := ∀ x ∈ M, Inv9 n x
theorem AllInv.more {n k : Nat} {M : List PipeM} (h : AllInv n M) (hk : n ≤ k) : AllInv k M := fun x hx => (h x hx).more hk
theorem AllInv.set {n : Nat} {M : List PipeM} (h : AllInv n M) {y : PipeM} (hy : Inv9 n y) (i : Nat) : AllInv n (M.set i y) := fun x hx => (List.mem_or_eq_of_mem_set hx).elim (h x) (fun e => by rw [e]; exact hy)
theorem AllInv.get {n : Nat} {M : List PipeM} (h : AllInv n M) {i : Nat} (hi : i < M.length) : Inv9 n (M.getD i (emptyM 0)) := by
 rw [List.getD_eq_getElem?_getD, List.getElem?_eq_getElem hi]
 exact h _ (List.getElem_mem hi)
def tryF (ok : List Bool) (M : List PipeM) (c : CaseM) : (GotM × Int) × List PipeM :=
 match posF ok c.chan with
 | none => ((gzero, 0), M)
 | some i => if c.send then ((sendF (M.getD i (emptyM 0)) c.value).1, M.set i (sendF (M.getD i (emptyM 0)) c.value).2) else (((recvF (M.getD i (emptyM 0))).1, 0), M.set i (recvF (M.getD i (emptyM 0))).2)
theorem tryF_len (ok : List Bool) (M : List PipeM) (c : CaseM) : (tryF ok M c).2.length = M.length := by
 unfold tryF
 split
 ·rfl
 ·split <;> simp
theorem pos_lt {ok : List Bool} {c : Int} {i : Nat} (h : posF ok c = some i) : i < ok.length := by
 unfold posF at h
 split at h
 ·injection h with h
  omega
 ·cases h
theorem AllInv.try {n : Nat} {M : List PipeM} {ok : List Bool} (h : AllInv n M) (hM : M.length = ok.length) (c : CaseM) : AllInv (n + 1) (tryF ok M c).2 := by
 unfold tryF
 split
 ·exact h.more (by omega)
 ·rename_i i hi
  have hi' := pos_lt hi
  split
  ·exact (h.more (Nat.le_succ n)).set ((h.get (by omega)).send _) i
  ·exact (h.more (Nat.le_succ n)).set ((h.get (by omega)).recv) i
/-- Park, case by case: how many were put, and the pipes. -/
def parkK (ok : List Bool) (g : Int) (L : List CaseM) (M : List PipeM) : Nat → Int × List PipeM
 | 0 => (0, M)
 | k + 1 =>
  match posF ok (L.getD k ⟨false, 0, 0⟩).chan with
  | none => parkK ok g L M k
  | some i =>
   let r := waitF ((parkK ok g L M k).2.getD i (emptyM 0)) (L.getD k ⟨false, 0, 0⟩).send ⟨g, k, (L.getD k ⟨false, 0, 0⟩).value⟩
   ((parkK ok g L M k).1 + (if r.1 = 0 then 1 else 0), (parkK ok g L M k).2.set i r.2)
theorem parkK_len (ok : List Bool) (g : Int) (L : List CaseM) (M : List PipeM) (k : Nat) : (parkK ok g L M k).2.length = M.length := by
 induction k with
 | zero => rfl
 | succ k ih =>
  unfold parkK
  split
  ·exact ih
  ·simp [ih]
theorem AllInv.park {n : Nat} {M : List PipeM} {ok : List Bool} (h : AllInv n M) (hM : M.length = ok.length) (g : Int) (L : List CaseM) (k : Nat) : AllInv n (parkK ok g L M k).2 := by
 induction k with
 | zero => exact h
 | succ k ih =>
  unfold parkK
  split
  ·exact ih
  ·rename_i i hi
   have hi' := pos_lt hi
   have hl := parkK_len ok g L M k
   exact ih.set ((ih.get (by omega)).wait _ _) i
theorem parkK_bd (ok : List Bool) (g : Int) (L : List CaseM) (M : List PipeM) (k : Nat) : 0 ≤ (parkK ok g L M k).1 ∧ (parkK ok g L M k).1 ≤ k := by
 induction k with
 | zero => exact ⟨Int.le_refl _, Int.le_refl _⟩
 | succ k ih =>
  unfold parkK
  split
  ·omega
  ·dsimp only
   split <;> omega
def parkF (ok : List Bool) (g : Int) (L : List CaseM) (M : List PipeM) : (Int × Int) × List PipeM :=
 if g < 0 ∨ 4 < L.length then ((0, 1), M)
 else if 0 < (readyL ok M L).length then ((0, 7), M)
 else (((parkK ok g L M L.length).1, 0), (parkK ok g L M L.length).2)
theorem parkF_len (ok : List Bool) (g : Int) (L : List CaseM) (M : List PipeM) : (parkF ok g L M).2.length = M.length := by
 unfold parkF
 split
 ·rfl
 ·split
  ·rfl
  ·exact parkK_len ok g L M L.length
theorem AllInv.parkF {n : Nat} {M : List PipeM} {ok : List Bool} (h : AllInv n M) (hM : M.length = ok.length) (g : Int) (L : List CaseM) : AllInv n (parkF ok g L M).2 := by
 unfold Go.Proofs.YtchkaaeoffmjnaaGreatDoor.parkF
 split
 ·exact h
 ·split
  ·exact h
  ·exact h.park hM g L _
/-- Leave, pipe by pipe. -/
def dropN (x : PipeM) (g : Int) : Int := ((x.senders.length : Int) - (without g x.senders).length) + ((x.receivers.length : Int) - (without g x.receivers).length)
def leaveM (g : Int) (M : List PipeM) (k : Nat) : List PipeM := (M.take k).map (fun x => dropM x g) ++ M.drop k
def leaveN (ok : List Bool) (g : Int) (M : List PipeM) : Nat → Int
 | 0 => 0
 | k + 1 => leaveN ok g M k + (if ok.getD k false then dropN (M.getD k (emptyM 0)) g else 0)
def leaveF (ok : List Bool) (g : Int) (M : List PipeM) : Int × List PipeM := (leaveN ok g M M.length, M.map (fun x => dropM x g))
theorem leaveM_at (g : Int) (M : List PipeM) (k : Nat) (hk : k < M.length) : (leaveM g M k)[k]? = some M[k] := by
 unfold leaveM
 rw [List.getElem?_append_right (by simp; omega)]
 simp
 rw [show k - min k M.length = 0 by omega, Nat.add_zero, List.getElem?_eq_getElem hk]
theorem leaveM_succ (g : Int) (M : List PipeM) (k : Nat) (hk : k < M.length) : (leaveM g M k).set k (dropM M[k] g) = leaveM g M (k + 1) := by
 unfold leaveM
 rw [List.set_append_right _ _ (by simp; omega), List.length_map, List.length_take, Nat.min_eq_left (Nat.le_of_lt hk), Nat.sub_self, List.drop_eq_getElem_cons hk, List.set_cons_zero, List.take_succ_eq_append_getElem hk, List.map_append]
 simp
theorem leaveM_all (g : Int) (M : List PipeM) : leaveM g M M.length = M.map (fun x => dropM x g) := by
 unfold leaveM
 simp
theorem AllInv.leave {n : Nat} {M : List PipeM} (h : AllInv n M) (g : Int) : AllInv n (M.map (fun x => dropM x g)) := fun x hx => by
 obtain ⟨y, hy, rfl⟩ := List.mem_map.1 hx
 exact (h y hy).drop g
theorem dropN_bd {n : Nat} (x : PipeM) (g : Int) (h : Inv9 n x) : 0 ≤ dropN x g ∧ dropN x g ≤ 2048 := by
 have := without_le g x.senders
 have := without_le g x.receivers
 have := h.snd.1
 have := h.rcv.1
 unfold dropN
 omega
theorem leaveN_bd {n : Nat} (ok : List Bool) (g : Int) {M : List PipeM} (h : AllInv n M) (k : Nat) (hk : k ≤ M.length) : 0 ≤ leaveN ok g M k ∧ leaveN ok g M k ≤ 2048 * k := by
 induction k with
 | zero => exact ⟨Int.le_refl _, Int.le_refl _⟩
 | succ k ih =>
  have ih := ih (by omega)
  have hb := dropN_bd (M.getD k (emptyM 0)) g (h.get (show k < M.length by omega))
  unfold leaveN
  split <;> omega
theorem zip_none {P : Nat → PipeM → Piece} {gs : List (Option Nat)} {M : List PipeM} {i : Nat} (hg : gs[i]? = some none) (y : PipeM) : List.zipWith (pieceO P) gs (M.set i y) = List.zipWith (pieceO P) gs M := by
 apply List.ext_getElem?
 intro j
 rw [List.getElem?_zipWith, List.getElem?_zipWith]
 by_cases hj : i = j
 ·subst hj
  rw [hg, List.getElem?_set_self']
  cases M[i]? <;> rfl
 ·rw [List.getElem?_set_ne hj]
end Go.Proofs.YtchkaaeoffmjnaaGreatDoor
namespace Go.Proofs.YtchkaaeoffmjnaaGreatDoor
set_option linter.unusedVariables false
set_option linter.unusedSimpArgs false
open Go.RowKit
end Go.Proofs.YtchkaaeoffmjnaaGreatDoor
namespace Go.Proofs.YtchkaaeoffmjnaaGreatDoor
set_option linter.unusedVariables false
set_option linter.unusedSimpArgs false
open Go.RowKit
structure One where
 program : Int
 place : Int
 state : Int
 deriving DecidableEq
def One.cells (x : One) : List Value := [.int .i64 x.program, .int .i64 x.place, .int .i64 x.state]
theorem One.cells_length (x : One) : x.cells.length = 3 := rfl
theorem ones_set : ∀ (L : List One) (g : Nat) (x : One), g < L.length →
  (L.set g x).flatMap One.cells = ((((L.flatMap One.cells).set (g * 3) (.int .i64 x.program)).set (g * 3 + 1) (.int .i64 x.place))).set (g * 3 + 2) (.int .i64 x.state)
 | [], _, _, h => absurd h (Nat.not_lt_zero _)
 | y :: l, 0, x, _ => by simp [One.cells]
 | y :: l, g + 1, x, h => by
  rw [List.set_cons_succ, List.flatMap_cons, List.flatMap_cons, ones_set l g x (by simpa using h)]
  rw [show (g + 1) * 3 = y.cells.length + g * 3 from by rw [One.cells_length]; omega]
  simp only [Nat.add_assoc]
  simp [List.set_append_right]
/-- Block c (of type tc) is a struct with a slice of goroutines L (of type te), all whose blocks are of S. -/
def OnesAt (tc te : Nat) (w : World) (S : Nat → Prop) (c : Nat) (L : List One) : Prop :=
 ∃ v, w.heap[c]? = some (.cells #[v] tc (0, 0)) ∧ w.ownsRow 0 te 3 v L.length (L.flatMap One.cells) ∧ S c ∧ ∀ k, v.ownBlock = some k → S k ∧ k ≠ c
/-- A crew. -/
abbrev CrewAt := OnesAt 168 170
theorem OnesAt.move {tc te : Nat} {w w' : World} {S : Nat → Prop} {c : Nat} {L : List One} (h : OnesAt tc te w S c L) (hm : ∀ k, S k → w'.heap[k]? = w.heap[k]?) : OnesAt tc te w' S c L := by
 obtain ⟨v, h1, h2, h3, h4⟩ := h
 exact ⟨v, (hm c h3).trans h1, own_move h2 (fun k hk => hm k (h4 k hk).1), h3, h4⟩
theorem OnesAt.mono {tc te : Nat} {w : World} {S T : Nat → Prop} {c : Nat} {L : List One} (h : OnesAt tc te w S c L) (hm : ∀ k, S k → T k) : OnesAt tc te w T c L := by
 obtain ⟨v, h1, h2, h3, h4⟩ := h
 exact ⟨v, h1, h2, hm c h3, fun k hk => ⟨hm k (h4 k hk).1, (h4 k hk).2⟩⟩
theorem OnesAt.bound {tc te : Nat} {w : World} {S : Nat → Prop} {c : Nat} {L : List One} (h : OnesAt tc te w S c L) : OnesAt tc te w (fun k => S k ∧ k < w.heap.size) c L := by
 obtain ⟨v, h1, h2, h3, h4⟩ := h
 exact ⟨v, h1, h2, ⟨h3, lt_of_block h1⟩, fun k hk => ⟨⟨(h4 k hk).1, own_lt h2 hk⟩, (h4 k hk).2⟩⟩
theorem OnesAt.move' {tc te : Nat} {w w' : World} {S : Nat → Prop} {c : Nat} {L : List One} (h : OnesAt tc te w (fun k => S k ∧ k < w.heap.size) c L) (hf : Frm Nil w w') : OnesAt tc te w' S c L :=
 (h.move (fun k hk => hf.block k hk.2 id)).mono (fun _ hk => hk.1)
theorem OnesAt.alloc {tc te : Nat} {w : World} {S : Nat → Prop} {c : Nat} {L : List One} (h : OnesAt tc te w S c L) (o : Obj) : OnesAt tc te (w.alloc o) S c L := h.bound.move' ((Frm.refl Nil w).alloc o)
/-- What it gives to a walk. -/
theorem OnesAt.cells {tc te : Nat} {w : World} {S : Nat → Prop} {c : Nat} {L : List One} (h : OnesAt tc te w S c L) :
  ∃ a cap, w.cell? ⟨c, 0, none⟩ = some (.slice a L.length cap) ∧ w.frozen? ⟨c, 0, none⟩ = false ∧ L.length ≤ maxLen ∧
   (0 < L.length → ∃ b, a = some ⟨b, 0, none⟩ ∧ S b ∧ b ≠ c ∧ (∀ j, w.frozen? ⟨b, j, none⟩ = false) ∧
    ∀ g (hg : g < L.length), w.cell? ⟨b, g * 3, none⟩ = some (.int .i64 L[g].program) ∧ w.cell? ⟨b, g * 3 + 1, none⟩ = some (.int .i64 L[g].place) ∧ w.cell? ⟨b, g * 3 + 2, none⟩ = some (.int .i64 L[g].state)) := by
 obtain ⟨v, h1, h2, h3, h4⟩ := h
 obtain ⟨a, cap, rfl⟩ := own_form h2
 refine ⟨a, cap, cell_of_one h1, free_of_one h1, own_max h2, fun hn => ?_⟩
 obtain ⟨b, rfl⟩ := own_some h2 hn
 refine ⟨b, rfl, (h4 b rfl).1, (h4 b rfl).2, fun j => h2.frozenAt j, fun g hg => ?_⟩
 have key : ∀ j, j < 3 → w.cell? ⟨b, g * 3 + j, none⟩ = (L[g].cells)[j]? := fun j hj => by
  rw [h2.cellAt (g * 3 + j) (by omega), flat_get One.cells 3 One.cells_length L g j hj hg]
 exact ⟨key 0 (by omega), key 1 (by omega), key 2 (by omega)⟩
theorem OnesAt.stored {tc te : Nat} {w : World} {S : Nat → Prop} {c b : Nat} {cap : Nat} {L : List One} (h : OnesAt tc te w S c L) (hc : w.cell? ⟨c, 0, none⟩ = some (.slice (some ⟨b, 0, none⟩) L.length cap)) (g : Nat) (hg : g < L.length) (pl st : Int) :
  OnesAt tc te ((w.setCell ⟨b, g * 3 + 2, none⟩ (.int .i64 st)).setCell ⟨b, g * 3 + 1, none⟩ (.int .i64 pl)) S c (L.set g ⟨L[g].program, pl, st⟩) := by
 obtain ⟨v, h1, h2, h3, h4⟩ := h
 rw [cell_of_one h1] at hc
 injection hc with hc
 subst hc
 have hne : c ≠ b := (h4 b rfl).2.symm
 refine ⟨_, ?_, ?_, h3, h4⟩
 ·rw [Below.heap_setCell _ _ _ _ hne, Below.heap_setCell _ _ _ _ hne]
  exact h1
 ·have h5 := ((h2.stored (g * 3 + 2) (.int .i64 st)).1.stored (g * 3 + 1) (.int .i64 pl)).1
  rw [List.length_set]
  have e : (L.set g ⟨L[g].program, pl, st⟩).flatMap One.cells = ((L.flatMap One.cells).set (g * 3 + 2) (.int .i64 st)).set (g * 3 + 1) (.int .i64 pl) := by
   rw [ones_set L g _ hg, List.set_comm _ _ (by omega)]
   congr 2
   have h0 := flat_get One.cells 3 One.cells_length L g 0 (by omega) hg
   rw [Nat.add_zero] at h0
   apply List.ext_getElem?
   intro i
   rw [List.getElem?_set]
   split
   ·rename_i hi
    subst hi
    rw [h0]
    split
    ·rfl
    ·rename_i hlt
     rw [List.getElem?_eq_none (by omega)] at h0
     simp [One.cells] at h0
   ·rfl
  rw [e]
  exact h5
def spawnF (L : List One) (p : Int) : (Int × Int) × List One :=
 if p < 0 then ((0, 1), L) else if L.length = 512 then ((0, 5), L) else ((L.length, 0), L ++ [⟨p, 0, 0⟩])
def turnF (L : List One) (g fr to by_ : Int) : Int × List One :=
 if 0 ≤ g then
  match L[g.toNat]? with
  | none => (6, L)
  | some x => if x.state = fr then (0, L.set g.toNat ⟨x.program, x.place + by_, to⟩) else (7, L)
 else (6, L)
def stateF (L : List One) (g : Int) : Int × Bool := if 0 ≤ g then (match L[g.toNat]? with | none => (0, false) | some x => (x.state, true)) else (0, false)
def atF (L : List One) (g : Int) : Int × Int × Bool := if 0 ≤ g then (match L[g.toNat]? with | none => (0, 0, false) | some x => (x.program, x.place, true)) else (0, 0, false)
def inF (L : List One) (s : Int) : Nat → List Int
 | 0 => []
 | k + 1 => inF L s k ++ (match L[k]? with | none => [] | some x => if x.state = s then [(k : Int)] else [])
def ableF (L : List One) : List Int := inF L 0 L.length
def overF (L : List One) : Int := if 0 < (ableF L).length then 0 else if 0 < (inF L 1 L.length).length then 2 else 1
theorem inF_length (L : List One) (s : Int) : ∀ k, (inF L s k).length ≤ k
 | 0 => Nat.le_refl _
 | k + 1 => by
  have := inF_length L s k
  rw [inF, List.length_append]
  split
  ·simp; omega
  ·split <;> simp <;> omega
theorem infoOne : (Tryz.prog.info? 170).map (fun i => (i.zero, i.size, i.bytes)) = some (some (.agg #[.int .i64 0, .int .i64 0, .int .i64 0]), 3, 24) := by kernel_rfl
set_option maxHeartbeats 400000 in
theorem crew_new (w : World) : Calls Tryz.prog 48 #[] w fun e w' => ∃ c, e = .returned (.pointer (some ⟨c, 0, none⟩)) ∧ CrewAt w' (New Nil w w') c [] ∧ Frm Nil w w' := by
 go_enter Tryz.func48, Tryz.ntmps48
 go_wp2
 go_ret
 exact ⟨w.heap.size, rfl, ⟨.slice none 0 0, heap_alloc_new w _, World.ownsRow_nil _ _ _ _, .inr ⟨Nat.le_refl _, by simp⟩, fun k hk => by cases hk⟩, (Frm.refl _ _).alloc _⟩
section
variable {w : World} {S : Nat → Prop} {c : Nat} {L : List One}
set_option maxHeartbeats 400000 in
theorem crew_len (h : CrewAt w S c L) : Calls Tryz.prog 65 #[.pointer (some ⟨c, 0, none⟩)] w fun e w' => e = .returned (.int .i64 L.length) ∧ w = w' := by
 obtain ⟨a, cap, hc, hf, hm, _⟩ := h.cells
 unfold maxLen at hm
 go_enter Tryz.func65, Tryz.ntmps65
 go_wp2
 go_ret
 exact ⟨rfl, rfl⟩
set_option maxHeartbeats 400000 in
theorem crew_of (h : CrewAt w S c L) {b cap : Nat} (hc : w.cell? ⟨c, 0, none⟩ = some (.slice (some ⟨b, 0, none⟩) L.length cap)) (g : Nat) (hg : g < L.length) :
  Calls Tryz.prog 191 #[.pointer (some ⟨c, 0, none⟩), .int .i64 g] w fun e w' => e = .returned (.pointer (some ⟨b, g * 3, none⟩)) ∧ w = w' := by
 obtain ⟨_, _, _, hf, hm, _⟩ := h.cells
 unfold maxLen at hm
 go_enter Tryz.func191, Tryz.ntmps191
 go_wp2_with (go_at_call 65; refine (crew_len h).mono ?_; rintro e w' ⟨rfl, rfl⟩)
 go_ret
 exact ⟨rfl, rfl⟩
set_option maxHeartbeats 400000 in
theorem crew_of_none (h : CrewAt w S c L) (g : Int) (hg : ¬ (0 ≤ g ∧ g < L.length)) :
  Calls Tryz.prog 191 #[.pointer (some ⟨c, 0, none⟩), .int .i64 g] w fun e w' => e = .returned (.pointer none) ∧ w = w' := by
 obtain ⟨a, cap, hc, hf, hm, _⟩ := h.cells
 unfold maxLen at hm
 go_enter Tryz.func191, Tryz.ntmps191
 go_wp2_with (go_at_call 65; refine (crew_len h).mono ?_; rintro e w' ⟨rfl, rfl⟩)
 all_goals (go_ret; exact ⟨rfl, rfl⟩)
/-- What 'of' answers, in one word for those that call it. -/
def OfIs (w : World) (p : Option Addr) (g : Int) (q : Option Addr) : Prop :=
 Calls Tryz.prog 191 #[.pointer p, .int .i64 g] w fun e w' => e = .returned (.pointer q) ∧ w = w'
set_option maxHeartbeats 400000 in
theorem turn_none {p : Option Addr} {g : Int} (hof : OfIs w p g none) (fr to by_ : Int) :
  Calls Tryz.prog 169 #[.pointer p, .int .i64 g, .int .i64 fr, .int .i64 to, .int .i64 by_] w fun e w' => e = .returned (.int .i64 6) ∧ w = w' := by
 go_enter Tryz.func169, Tryz.ntmps169
 go_wp2_with (go_at_call 191; refine Calls.mono hof ?_; rintro e w' ⟨rfl, rfl⟩)
 go_ret
 exact ⟨rfl, rfl⟩
set_option maxHeartbeats 400000 in
theorem turn_state {p : Option Addr} {g : Int} {b j : Nat} (hof : OfIs w p g (some ⟨b, j, none⟩)) (fr to by_ st : Int) (hs : w.cell? ⟨b, j + 2, none⟩ = some (.int .i64 st)) (hne : (st != fr) = true) :
  Calls Tryz.prog 169 #[.pointer p, .int .i64 g, .int .i64 fr, .int .i64 to, .int .i64 by_] w fun e w' => e = .returned (.int .i64 7) ∧ w = w' := by
 go_enter Tryz.func169, Tryz.ntmps169
 go_wp2_with (go_at_call 191; refine Calls.mono hof ?_; rintro e w' ⟨rfl, rfl⟩)
 go_ret
 exact ⟨rfl, rfl⟩
set_option maxHeartbeats 400000 in
theorem turn_ok {p : Option Addr} {g : Int} {b j : Nat} (hof : OfIs w p g (some ⟨b, j, none⟩)) (fr to by_ pl : Int) (hs : w.cell? ⟨b, j + 2, none⟩ = some (.int .i64 fr)) (hp : w.cell? ⟨b, j + 1, none⟩ = some (.int .i64 pl))
  (hf : ∀ i, w.frozen? ⟨b, i, none⟩ = false) (h2 : -1000000000 ≤ pl + by_) (h3 : pl + by_ ≤ 1000000000) :
  Calls Tryz.prog 169 #[.pointer p, .int .i64 g, .int .i64 fr, .int .i64 to, .int .i64 by_] w fun e w' => e = .returned (.int .i64 0) ∧
   w' = (w.setCell ⟨b, j + 2, none⟩ (.int .i64 to)).setCell ⟨b, j + 1, none⟩ (.int .i64 (pl + by_)) := by
 go_enter Tryz.func169, Tryz.ntmps169
 go_wp2_with (go_at_call 191; refine Calls.mono hof ?_; rintro e w' ⟨rfl, rfl⟩)
 go_ret
 exact ⟨rfl, rfl⟩
/-- A method that changes a crew answers r, and it is L' then. -/
def CrewPost (S : Nat → Prop) (c : Nat) (w : World) (r : Value) (L' : List One) : Ending → World → Prop :=
 fun e w' => e = .returned r ∧ CrewAt w' (New S w w') c L' ∧ Frm S w w'
def Small (L : List One) (N : Int) : Prop := ∀ x ∈ L, 0 ≤ x.place ∧ x.place ≤ N
theorem crew_turn (h : CrewAt w S c L) (hp : Small L 100000000) (g fr to by_ : Int) (hb0 : 0 ≤ by_) (hb1 : by_ ≤ 1) :
  Calls Tryz.prog 169 #[.pointer (some ⟨c, 0, none⟩), .int .i64 g, .int .i64 fr, .int .i64 to, .int .i64 by_] w
   (CrewPost S c w (.int .i64 (turnF L g fr to by_).1) (turnF L g fr to by_).2) := by
 have stay : ∀ r, Ending.returned r = Ending.returned r ∧ CrewAt w (New S w w) c L ∧ Frm S w w := fun r => ⟨rfl, h.mono (fun k hk => .inl hk), Frm.refl _ _⟩
 by_cases hg : 0 ≤ g ∧ g < L.length
 ·obtain ⟨k, rfl⟩ := Int.eq_ofNat_of_zero_le hg.1
  have hk : k < L.length := by omega
  obtain ⟨a, cap, hc, _, _, hx⟩ := h.cells
  obtain ⟨b, rfl, hSb, hbc, hfz, hcells⟩ := hx (by omega)
  obtain ⟨_, h1, h2⟩ := hcells k hk
  have hof : OfIs w (some ⟨c, 0, none⟩) (k : Int) (some ⟨b, k * 3, none⟩) := crew_of h hc k hk
  have hget : L[((k : Nat) : Int).toNat]? = some L[k] := by rw [Int.toNat_natCast]; exact List.getElem?_eq_getElem hk
  have hpl := hp L[k] (List.getElem_mem hk)
  by_cases hst : L[k].state = fr
  ·have e : turnF L k fr to by_ = (0, L.set k ⟨L[k].program, L[k].place + by_, to⟩) := by
    unfold turnF
    rw [if_pos (by omega), hget]
    simp only [hst, if_true, Int.toNat_natCast]
   rw [e]
   refine (turn_ok hof fr to by_ L[k].place (by rw [← hst]; exact h2) h1 hfz (by omega) (by omega)).mono ?_
   rintro e w' ⟨rfl, rfl⟩
   have hst2 := OnesAt.stored h hc k hk (L[k].place + by_) to
   exact ⟨rfl, hst2.mono (fun k hk => .inl hk), ((Frm.refl _ _).setCell (fun _ => hSb) _).setCell (fun _ => hSb) _⟩
  ·have e : turnF L k fr to by_ = (7, L) := by
    unfold turnF
    rw [if_pos (by omega), hget]
    simp only [hst, if_false]
   rw [e]
   refine (turn_state hof fr to by_ _ h2 (by simpa using hst)).mono ?_
   rintro e w' ⟨rfl, rfl⟩
   exact stay _
 ·have e : turnF L g fr to by_ = (6, L) := by
   unfold turnF
   split
   ·rw [List.getElem?_eq_none (by omega)]
   ·rfl
  rw [e]
  refine (turn_none (crew_of_none h g hg) fr to by_).mono ?_
  rintro e w' ⟨rfl, rfl⟩
  exact stay _
set_option maxHeartbeats 400000 in
theorem crew_go (h : CrewAt w S c L) (hp : Small L 100000000) (g : Int) : Calls Tryz.prog 114 #[.pointer (some ⟨c, 0, none⟩), .int .i64 g] w (CrewPost S c w (.int .i64 (turnF L g 0 0 1).1) (turnF L g 0 0 1).2) := by
 go_enter Tryz.func114, Tryz.ntmps114
 go_wp2_with (go_at_call 169; refine (crew_turn h hp g 0 0 1 (by omega) (by omega)).mono ?_; rintro e w' ⟨rfl, h1, h2⟩)
 go_ret
 exact ⟨rfl, h1, h2⟩
set_option maxHeartbeats 400000 in
theorem crew_park (h : CrewAt w S c L) (hp : Small L 100000000) (g : Int) : Calls Tryz.prog 161 #[.pointer (some ⟨c, 0, none⟩), .int .i64 g] w (CrewPost S c w (.int .i64 (turnF L g 0 1 0).1) (turnF L g 0 1 0).2) := by
 go_enter Tryz.func161, Tryz.ntmps161
 go_wp2_with (go_at_call 169; refine (crew_turn h hp g 0 1 0 (by omega) (by omega)).mono ?_; rintro e w' ⟨rfl, h1, h2⟩)
 go_ret
 exact ⟨rfl, h1, h2⟩
set_option maxHeartbeats 400000 in
theorem crew_wake (h : CrewAt w S c L) (hp : Small L 100000000) (g : Int) : Calls Tryz.prog 198 #[.pointer (some ⟨c, 0, none⟩), .int .i64 g] w (CrewPost S c w (.int .i64 (turnF L g 1 0 1).1) (turnF L g 1 0 1).2) := by
 go_enter Tryz.func198, Tryz.ntmps198
 go_wp2_with (go_at_call 169; refine (crew_turn h hp g 1 0 1 (by omega) (by omega)).mono ?_; rintro e w' ⟨rfl, h1, h2⟩)
 go_ret
 exact ⟨rfl, h1, h2⟩
set_option maxHeartbeats 400000 in
theorem crew_exit (h : CrewAt w S c L) (hp : Small L 100000000) (g : Int) : Calls Tryz.prog 113 #[.pointer (some ⟨c, 0, none⟩), .int .i64 g] w (CrewPost S c w (.int .i64 (turnF L g 0 2 0).1) (turnF L g 0 2 0).2) := by
 go_enter Tryz.func113, Tryz.ntmps113
 go_wp2_with (go_at_call 169; refine (crew_turn h hp g 0 2 0 (by omega) (by omega)).mono ?_; rintro e w' ⟨rfl, h1, h2⟩)
 go_ret
 exact ⟨rfl, h1, h2⟩
end
end Go.Proofs.YtchkaaeoffmjnaaGreatDoor
namespace Go.Proofs.YtchkaaeoffmjnaaGreatDoor
set_option linter.unusedVariables false
set_option linter.unusedSimpArgs false
open Go.RowKit
section
variable {w : World} {S : Nat → Prop} {c : Nat} {L : List One}
set_option maxHeartbeats 400000 in
theorem state_none {p : Option Addr} {g : Int} (hof : OfIs w p g none) :
  Calls Tryz.prog 163 #[.pointer p, .int .i64 g] w fun e w' => e = .returned (.tuple #[.int .i64 0, .bool false]) ∧ w = w' := by
 go_enter Tryz.func163, Tryz.ntmps163
 go_wp2_with (go_at_call 191; refine Calls.mono hof ?_; rintro e w' ⟨rfl, rfl⟩)
 go_ret2
 exact ⟨rfl, rfl⟩
set_option maxHeartbeats 400000 in
theorem state_some {p : Option Addr} {g : Int} {b j : Nat} (hof : OfIs w p g (some ⟨b, j, none⟩)) (st : Int) (hs : w.cell? ⟨b, j + 2, none⟩ = some (.int .i64 st)) :
  Calls Tryz.prog 163 #[.pointer p, .int .i64 g] w fun e w' => e = .returned (.tuple #[.int .i64 st, .bool true]) ∧ w = w' := by
 go_enter Tryz.func163, Tryz.ntmps163
 go_wp2_with (go_at_call 191; refine Calls.mono hof ?_; rintro e w' ⟨rfl, rfl⟩)
 go_ret2
 exact ⟨rfl, rfl⟩
set_option maxHeartbeats 400000 in
theorem at_none {p : Option Addr} {g : Int} (hof : OfIs w p g none) :
  Calls Tryz.prog 153 #[.pointer p, .int .i64 g] w fun e w' => e = .returned (.tuple #[.int .i64 0, .int .i64 0, .bool false]) ∧ w = w' := by
 go_enter Tryz.func153, Tryz.ntmps153
 go_wp2_with (go_at_call 191; refine Calls.mono hof ?_; rintro e w' ⟨rfl, rfl⟩)
 go_ret3
 exact ⟨rfl, rfl⟩
set_option maxHeartbeats 400000 in
theorem at_some {p : Option Addr} {g : Int} {b j : Nat} (hof : OfIs w p g (some ⟨b, j, none⟩)) (pr pl : Int) (hs : w.cell? ⟨b, j, none⟩ = some (.int .i64 pr)) (hp : w.cell? ⟨b, j + 1, none⟩ = some (.int .i64 pl)) :
  Calls Tryz.prog 153 #[.pointer p, .int .i64 g] w fun e w' => e = .returned (.tuple #[.int .i64 pr, .int .i64 pl, .bool true]) ∧ ∃ n, w' = w.drewN n := by
 go_enter Tryz.func153, Tryz.ntmps153
 go_wp2_with (go_at_call 191; refine Calls.mono hof ?_; rintro e w' ⟨rfl, rfl⟩)
 go_quiet (fail)
 go_wp2
 go_ret3
 exact ⟨rfl, _, rfl⟩
set_option maxHeartbeats 400000 in
theorem crew_in (h : CrewAt w S c L) (hL : L.length ≤ 512) (s : Int) : Calls Tryz.prog 102 #[.pointer (some ⟨c, 0, none⟩), .int .i64 s] w fun e w' =>
  ∃ a cap n, e = .returned (.slice a n cap) ∧ Rd w' 1 a n (ints (inF L s L.length)) ∧ Frm Nil w w' := by
 obtain ⟨a, cap, hc, hf, hm, hcells⟩ := h.cells
 unfold maxLen at hm
 go_enter Tryz.func102, Tryz.ntmps102
 go_wp2_with (go_at_call 65; refine (crew_len h).mono ?_; rintro e w' ⟨rfl, rfl⟩)
 go_loopw [5, 9] (fun v i wr => ∃ k : Nat, k ≤ L.length ∧ i = .int .i64 k ∧ Frm Nil w wr ∧ Col w.heap.size wr v (inF L s k)) (fun _ i _ => L.length - (intOf i).toNat)
 case atStart => exact ⟨0, Nat.zero_le _, rfl, Frm.refl _ _, Col.nil _ _⟩
 case round =>
  obtain ⟨k, hk, rfl, hfr, hcol⟩ := hrel
  by_cases hlt : k < L.length
  ·have hr : CrewAt wr S c L := h.bound.move' hfr
   obtain ⟨a2, cap2, hc2, hf2, hm2, hx2⟩ := hr.cells
   obtain ⟨b, rfl, hSb, hbc, hfz, hcells2⟩ := hx2 (by omega)
   obtain ⟨_, _, hst⟩ := hcells2 k hlt
   have hll := inF_length L s k
   have hget : L[k]? = some L[k] := List.getElem?_eq_getElem hlt
   have hcomes : inF L s (k + 1) = inF L s k ++ (if L[k].state = s then [(k : Int)] else []) := by rw [inF, hget]
   obtain ⟨st, hst0⟩ : ∃ st, L[k].state = st := ⟨_, rfl⟩
   rw [hst0] at hst hcomes
   have HC := Lib.hid hcomes
   clear hcomes hcells2 hx2 hget hcells hc hst0
   by_cases hs : st = s
   ·have hb0 : (st == s) = true := by simpa using hs
    have HS := Lib.hid hs
    clear hs
    go_wp2_with (at_builtin; go_must (refine col_app rfl _ _ rfl u5 _ (k : Int) rfl rfl (by simp) hcol hfr rfl (by omega) ?_); intro v1 w1 hcol1 hfr1)
    go_roundw
    case rel => exact ⟨k + 1, by omega, by go_num, hfr1, by rw [HC.out, if_pos HS.out]; exact hcol1⟩
    case measure => simp [intOf]; omega
   ·have hb0 : (st == s) = false := by simpa using hs
    go_wp2
    go_roundw
    case rel => exact ⟨k + 1, by omega, by go_num, hfr, by rw [HC.out, if_neg hs, List.append_nil]; exact hcol⟩
    case measure => simp [intOf]; omega
  ·go_wp2
   go_ret
   have hkn : k = L.length := by omega
   subst hkn
   obtain ⟨a3, cap3, rfl, hrd⟩ := hcol.rd
   exact ⟨a3, cap3, _, rfl, hrd, hfr⟩
set_option maxHeartbeats 400000 in
theorem crew_spawn_ok (h : CrewAt w S c L) (hL : L.length < 512) (pr : Int) (h0 : 0 ≤ pr) : Calls Tryz.prog 49 #[.pointer (some ⟨c, 0, none⟩), .int .i64 pr] w
  (CrewPost S c w (.tuple #[.int .i64 L.length, .int .i64 0]) (L ++ [⟨pr, 0, 0⟩])) := by
 obtain ⟨v, h1, h2, h3, h4⟩ := h
 obtain ⟨a, cap, rfl⟩ := own_form h2
 have hc := cell_of_one h1
 have hf := free_of_one h1
 go_enter Tryz.func49, Tryz.ntmps49
 go_wp2_with (at_builtin; go_must (refine app_one rfl _ _ 166 170 _ 3 24 rfl Tryz.underlying166 infoOne rfl (by decide) (.slice a L.length cap) L.length _ [.int .i64 pr, .int .i64 0, .int .i64 0] rfl rfl (by simp) rfl rfl h2 (by omega) (by decide) ?_); intro g' c' w1 hown hfrm hat; have hb1 := hfrm.blk h1 (fun hk => (h4 _ hk).2 rfl); have hc1 := cell_of_one hb1; have hf1 := free_of_one hb1)
 go_ret2
 have hgc : g' ≠ c := by
  rcases hat with hat | hat
  ·exact (h4 _ hat).2
  ·have := lt_of_block h1
   omega
 refine ⟨rfl, ⟨_, one_setCell hb1, ?_, .inl h3, fun k hk => ?_⟩, ?_⟩
 ·rw [List.length_append, List.length_singleton, flat_one]
  exact own_move hown (fun k hk => Below.heap_setCell _ _ _ _ (by rintro rfl; injection hk with hk; exact hgc hk))
 ·injection hk with hk
  dsimp only at hk
  subst hk
  refine ⟨?_, hgc⟩
  rcases hat with hat | hat
  ·exact .inl (h4 _ hat).1
  ·exact .inr ⟨hat, by simpa [World.setCell] using own_lt hown rfl⟩
 ·exact ((hfrm.mono (fun k hk hs => (h4 k hs).1)).setCell (fun _ => h3) _)
set_option maxHeartbeats 400000 in
theorem crew_spawn_arg (p : Option Addr) (pr : Int) (h0 : pr < 0) (w : World) : Calls Tryz.prog 49 #[.pointer p, .int .i64 pr] w
  fun e w' => e = .returned (.tuple #[.int .i64 0, .int .i64 1]) ∧ w = w' := by
 go_enter Tryz.func49, Tryz.ntmps49
 go_wp2
 go_ret2
 exact ⟨rfl, rfl⟩
set_option maxHeartbeats 400000 in
theorem crew_spawn_full (h : CrewAt w S c L) (hL : L.length = 512) (pr : Int) (h0 : 0 ≤ pr) : Calls Tryz.prog 49 #[.pointer (some ⟨c, 0, none⟩), .int .i64 pr] w
  fun e w' => e = .returned (.tuple #[.int .i64 0, .int .i64 5]) ∧ w = w' := by
 obtain ⟨a, cap, hc, _, _, _⟩ := h.cells
 rw [hL] at hc
 clear hL
 go_enter Tryz.func49, Tryz.ntmps49
 go_wp2
 go_ret2
 exact ⟨rfl, rfl⟩
theorem crew_spawn (h : CrewAt w S c L) (hL : L.length ≤ 512) (pr : Int) : Calls Tryz.prog 49 #[.pointer (some ⟨c, 0, none⟩), .int .i64 pr] w
  (CrewPost S c w (.tuple #[.int .i64 (spawnF L pr).1.1, .int .i64 (spawnF L pr).1.2]) (spawnF L pr).2) := by
 unfold spawnF
 by_cases h0 : pr < 0
 ·rw [if_pos h0]
  refine (crew_spawn_arg _ pr h0 w).mono ?_
  rintro e w' ⟨rfl, rfl⟩
  exact ⟨rfl, h.mono (fun k hk => .inl hk), Frm.refl _ _⟩
 ·rw [if_neg h0]
  by_cases h1 : L.length = 512
  ·rw [if_pos h1]
   refine (crew_spawn_full h h1 pr (by omega)).mono ?_
   rintro e w' ⟨rfl, rfl⟩
   exact ⟨rfl, h.mono (fun k hk => .inl hk), Frm.refl _ _⟩
  ·rw [if_neg h1]
   exact crew_spawn_ok h (by omega) pr (by omega)
theorem crew_state (h : CrewAt w S c L) (g : Int) : Calls Tryz.prog 163 #[.pointer (some ⟨c, 0, none⟩), .int .i64 g] w
  fun e w' => e = .returned (.tuple #[.int .i64 (stateF L g).1, .bool (stateF L g).2]) ∧ w = w' := by
 by_cases hg : 0 ≤ g ∧ g < L.length
 ·obtain ⟨k, rfl⟩ := Int.eq_ofNat_of_zero_le hg.1
  have hk : k < L.length := by omega
  obtain ⟨a, cap, hc, _, _, hx⟩ := h.cells
  obtain ⟨b, rfl, _, _, _, hcells⟩ := hx (by omega)
  have e : stateF L k = (L[k].state, true) := by
   unfold stateF
   rw [if_pos (by omega), Int.toNat_natCast, List.getElem?_eq_getElem hk]
  rw [e]
  exact state_some (crew_of h hc k hk) _ (hcells k hk).2.2
 ·have e : stateF L g = (0, false) := by
   unfold stateF
   split
   ·rw [List.getElem?_eq_none (by omega)]
   ·rfl
  rw [e]
  exact state_none (crew_of_none h g hg)
theorem crew_at (h : CrewAt w S c L) (g : Int) : Calls Tryz.prog 153 #[.pointer (some ⟨c, 0, none⟩), .int .i64 g] w
  fun e w' => e = .returned (.tuple #[.int .i64 (atF L g).1, .int .i64 (atF L g).2.1, .bool (atF L g).2.2]) ∧ ∃ n, w' = w.drewN n := by
 by_cases hg : 0 ≤ g ∧ g < L.length
 ·obtain ⟨k, rfl⟩ := Int.eq_ofNat_of_zero_le hg.1
  have hk : k < L.length := by omega
  obtain ⟨a, cap, hc, _, _, hx⟩ := h.cells
  obtain ⟨b, rfl, _, _, _, hcells⟩ := hx (by omega)
  have e : atF L k = (L[k].program, L[k].place, true) := by
   unfold atF
   rw [if_pos (by omega), Int.toNat_natCast, List.getElem?_eq_getElem hk]
  rw [e]
  exact at_some (crew_of h hc k hk) _ _ (hcells k hk).1 (hcells k hk).2.1
 ·have e : atF L g = (0, 0, false) := by
   unfold atF
   split
   ·rw [List.getElem?_eq_none (by omega)]
   ·rfl
  rw [e]
  refine (at_none (crew_of_none h g hg)).mono ?_
  rintro e w' ⟨rfl, rfl⟩
  exact ⟨rfl, 0, rfl⟩
/-- A slice of the numbers xs comes back. -/
def Ints (w : World) (xs : List Int) : Ending → World → Prop := fun e w' => ∃ a cap n, e = .returned (.slice a n cap) ∧ Rd w' 1 a n (ints xs) ∧ Frm Nil w w'
set_option maxHeartbeats 400000 in
theorem crew_able (h : CrewAt w S c L) (hL : L.length ≤ 512) : Calls Tryz.prog 101 #[.pointer (some ⟨c, 0, none⟩)] w (Ints w (ableF L)) := by
 go_enter Tryz.func101, Tryz.ntmps101
 go_wp2_with (go_at_call 102; refine (crew_in h hL 0).mono ?_; rintro e w' ⟨a, cap, n, rfl, h1, h2⟩)
 go_ret
 exact ⟨a, cap, n, rfl, h1, h2⟩
set_option maxHeartbeats 400000 in
theorem crew_over (h : CrewAt w S c L) (hL : L.length ≤ 512) : Calls Tryz.prog 50 #[.pointer (some ⟨c, 0, none⟩)] w fun e w' => e = .returned (.int .i64 (overF L)) ∧ Frm Nil w w' := by
 unfold overF
 by_cases h0 : 0 < (ableF L).length
 ·rw [if_pos h0]
  go_enter Tryz.func50, Tryz.ntmps50
  go_wp2_with (go_at_call 101; refine (crew_able h hL).mono ?_; rintro e w' ⟨a, cap, n, rfl, h1, h2⟩; have e1 := h1.int; have hn : 0 < n := by omega)
  go_ret
  exact ⟨rfl, h2⟩
 ·rw [if_neg h0]
  by_cases hi : 0 < (inF L 1 L.length).length
  ·rw [if_pos hi]
   go_enter Tryz.func50, Tryz.ntmps50
   go_wp2_with fail
   refine (crew_able h hL).mono ?_
   rintro e w' ⟨a, cap, n, rfl, h1, h2⟩
   have e1 := h1.int
   obtain rfl : n = 0 := by omega
   clear e1
   go_wp2_with fail
   refine (crew_in (h.bound.move' h2) hL 1).mono ?_
   rintro e w2 ⟨a2, cap2, n2, rfl, h3, h4⟩
   have e2 := h3.int
   have hn : 0 < n2 := by omega
   clear e2
   go_wp2_with fail
   go_ret
   exact ⟨rfl, h2.then h4⟩
  ·rw [if_neg hi]
   go_enter Tryz.func50, Tryz.ntmps50
   go_wp2_with fail
   refine (crew_able h hL).mono ?_
   rintro e w' ⟨a, cap, n, rfl, h1, h2⟩
   have e1 := h1.int
   obtain rfl : n = 0 := by omega
   clear e1
   go_wp2_with fail
   refine (crew_in (h.bound.move' h2) hL 1).mono ?_
   rintro e w2 ⟨a2, cap2, n2, rfl, h3, h4⟩
   have e2 := h3.int
   obtain rfl : n2 = 0 := by omega
   clear e2
   go_wp2_with fail
   go_ret
   exact ⟨rfl, h2.then h4⟩
end
end Go.Proofs.YtchkaaeoffmjnaaGreatDoor
namespace Go.Proofs.YtchkaaeoffmjnaaGreatDoor
set_option linter.unusedVariables false
set_option linter.unusedSimpArgs false
open Go.RowKit
section
variable {w : World} {S : Nat → Prop} {c : Nat} {L : List One}
def byOf (fr to : Int) : Int := if fr = 1 ∨ (fr = 0 ∧ to = 0) then 1 else 0
end
end Go.Proofs.YtchkaaeoffmjnaaGreatDoor
namespace Go.Proofs.YtchkaaeoffmjnaaGreatDoor
set_option linter.unusedVariables false
set_option linter.unusedSimpArgs false
structure OpM where
 kind : Int
 a : Int
 b : Int
 cases : List CaseM
 dflt : Bool
structure ScrM where
 t : Int
 m : Int
 progs : List (List OpM)
 plan : List Int
 draws : List Int
structure LmM where
 p : Nat
 d : Nat
 crew : List One
 M : List PipeM
 name : List Int
 tr : List Ev
 pan : Bool
def bareE (k g : Int) : Ev := ⟨k, g, -1, -1, -1, -1, false, false⟩
def noteL (x : LmM) (e : Ev) : LmM := { x with tr := x.tr ++ [e] }
def turnL (x : LmM) (g fr to : Int) : LmM := { x with crew := (turnF x.crew g fr to (byOf fr to)).2 }
def wakeL (x : LmM) (e : Ev) : LmM := turnL { noteL x e with M := x.M.map (fun y => dropM y e.g) } e.g 1 0
def panicL (x : LmM) (g : Int) : LmM := { noteL x (bareE 12 g) with pan := true }
def verL (s : ScrM) (x : LmM) : Int :=
 if x.pan = true then 3 else if overF x.crew ≠ 0 then overF x.crew else if s.plan.length ≤ x.p then 4 else 0
/-- Who is next by an entry of the plan; -1: it compacts. -/
def whoL (s : ScrM) (x : LmM) : Int :=
 if s.plan.getD x.p 0 = -1 then -1 else (ableF x.crew).getD ((s.plan.getD x.p 0).toNat % (ableF x.crew).length) 0
def exitOp : OpM := ⟨9, 0, 0, [], false⟩
def opL (s : ScrM) (x : LmM) (g : Int) : OpM :=
 match x.crew[g.toNat]? with
 | none => exitOp
 | some o =>
  match s.progs[o.program.toNat]? with
  | none => exitOp
  | some p => if (p.length : Int) ≤ o.place then exitOp else p.getD o.place.toNat exitOp
/-- The number of a name; -1: it is nil. -/
def numL (x : LmM) (c : Int) : Int := x.name.getD c.toNat (-1)
/-- The pipes by the names: which are there, and their states. -/
def okN (x : LmM) : List Bool := x.name.map (fun n => decide (0 ≤ n))
def pipesN (x : LmM) : List PipeM := x.name.map (fun n => if 0 ≤ n then x.M.getD n.toNat (emptyM 0) else emptyM 0)
/-- What is done to the pipes by the names, done to the channels. -/
def backN : List Int → List PipeM → List PipeM → List PipeM
 | n :: ns, y :: ys, M => backN ns ys (if 0 ≤ n then M.set n.toNat y else M)
 | _, _, M => M
/-- A case that is ready is done. -/
def talkL (x : LmM) (g : Int) (c : CaseM) (at_ : Int) : LmM :=
 let r := tryF (okN x) (pipesN x) c
 let got := r.1.1
 let x1 := { x with M := backN x.name r.2 x.M }
 if r.1.2 ≠ 0 then panicL x1 g
 else
  let ch := numL x c.chan
  let e : Ev := if c.send = true then ⟨3, g, ch, at_, c.value, if got.woke = true then got.mate.g else -1, true, false⟩ else ⟨4, g, ch, at_, got.value, if got.woke = true then got.mate.g else -1, false, got.ok⟩
  let x2 := turnL (noteL x1 e) g 0 0
  if got.woke = true then wakeL x2 ⟨7, got.mate.g, ch, got.mate.case_, if c.send = true then c.value else got.mate.value, g, !c.send, true⟩ else x2
/-- A send or a receive alone. -/
def aloneL (x : LmM) (g : Int) (c : CaseM) : LmM :=
 if readyC (okN x) (pipesN x) c = true then talkL x g c (-1)
 else
  let n := numL x c.chan
  let x1 := noteL x ⟨6, g, n, -1, c.value, -1, c.send, false⟩
  let x2 := if 0 ≤ n then { x1 with M := x1.M.set n.toNat (waitF (x1.M.getD n.toNat (emptyM 0)) c.send ⟨g, -1, c.value⟩).2 } else x1
  turnL x2 g 0 1
def wakesL (x : LmM) (g ch : Int) : List Wtr → LmM
 | [] => x
 | w :: ws => wakesL (if (stateF x.crew w.g).1 = 1 then wakeL x ⟨7, w.g, ch, w.case_, 0, g, false, false⟩ else x) g ch ws
/-- The first sender that still waits: it panics. -/
def sendersL (x : LmM) : List Wtr → LmM
 | [] => x
 | w :: ws => if (stateF x.crew w.g).1 = 1 then panicL x w.g else sendersL x ws
/-- A close. -/
def shutL (x : LmM) (g c : Int) : LmM :=
 let n := numL x c
 if n < 0 then panicL x g
 else
  let y := x.M.getD n.toNat (emptyM 0)
  if y.closed = true then panicL x g
  else
   let x1 := { x with M := x.M.set n.toNat (closeF y).2 }
   let x2 := turnL (noteL x1 ⟨5, g, n, -1, -1, -1, false, false⟩) g 0 0
   sendersL (wakesL x2 g n (closeF y).1.1) (closeF y).1.2.1
/-- A draw among n. -/
def drawL (s : ScrM) (x : LmM) (n : Nat) : Nat × LmM :=
 if n = 1 ∨ s.draws.length ≤ x.d then (0, x) else ((s.draws.getD x.d 0).toNat % n, { x with d := x.d + 1 })
/-- A select. -/
def chooseL (s : ScrM) (x : LmM) (g : Int) (o : OpM) : LmM :=
 let rd := readyL (okN x) (pipesN x) o.cases
 if 0 < rd.length then
  let dr := drawL s x rd.length
  let at_ := rd.getD dr.1 0
  talkL dr.2 g (o.cases.getD at_.toNat ⟨false, 0, 0⟩) at_
 else if o.dflt = true then turnL (noteL x (bareE 8 g)) g 0 0
 else
  let x1 := noteL x ⟨6, g, -1, (o.cases.length : Int), 0, -1, false, false⟩
  turnL { x1 with M := backN x.name (parkF (okN x) g o.cases (pipesN x)).2 x.M } g 0 1
/-- An operation that is about no channel, or makes one. -/
def otherL (x : LmM) (g : Int) (o : OpM) : LmM :=
 if o.kind = 1 then turnL (noteL { x with crew := (spawnF x.crew o.a).2 } ⟨1, g, -1, -1, o.a, (spawnF x.crew o.a).1.1, false, false⟩) g 0 0
 else if o.kind = 2 then turnL (noteL { x with M := x.M ++ [emptyM o.b.toNat], name := x.name.set o.a.toNat x.M.length } ⟨2, g, x.M.length, -1, o.b, -1, false, false⟩) g 0 0
 else if o.kind = 7 then turnL (noteL x ⟨9, g, -1, -1, o.a, -1, false, false⟩) g 0 0
 else if o.kind = 8 then turnL (noteL x ⟨10, g, -1, -1, o.a, -1, false, false⟩) g 0 0
 else noteL (turnL x g 0 2) (bareE 11 g)
/-- What a goroutine does. -/
def doesL (s : ScrM) (x : LmM) (g : Int) (o : OpM) : LmM :=
 if o.kind = 3 then aloneL x g ⟨true, o.a, o.b⟩
 else if o.kind = 4 then aloneL x g ⟨false, o.a, 0⟩
 else if o.kind = 5 then shutL x g o.a
 else if o.kind = 6 then chooseL s x g o
 else otherL x g o
/-- A step. -/
def stepL (s : ScrM) (x : LmM) : LmM :=
 if verL s x ≠ 0 then x
 else if whoL s x < 0 then noteL { x with p := x.p + 1 } (bareE 13 (-1))
 else doesL s { x with p := x.p + 1 } (whoL s x) (opL s x (whoL s x))
def newL : LmM := ⟨0, 0, [⟨0, 0, 0⟩], [], List.replicate 8 (-1), [], false⟩
def runL (s : ScrM) : Nat → LmM
 | 0 => newL
 | n + 1 => stepL s (runL s n)
end Go.Proofs.YtchkaaeoffmjnaaGreatDoor
namespace Go.Proofs.YtchkaaeoffmjnaaGreatDoor
set_option linter.unusedVariables false
set_option linter.unusedSimpArgs false
open Go.RowKit
def pickN (name : List Int) (L : List Piece) : List Piece := name.map (fun n => if 0 ≤ n then nth L n.toNat else emp)
def leftN : List Int → List Piece → List Piece
 | [], L => L
 | n :: ns, L => leftN ns (if 0 ≤ n then L.set n.toNat emp else L)
def putN {α : Type} : List Int → List α → List α → List α
 | n :: ns, y :: ys, L => putN ns ys (if 0 ≤ n then L.set n.toNat y else L)
 | _, _, L => L
theorem putN_back : ∀ (name : List Int) (ys M : List PipeM), putN name ys M = backN name ys M
 | [], _, _ => by unfold putN backN; rfl
 | n :: ns, [], M => by unfold putN backN; rfl
 | n :: ns, y :: ys, M => by
  unfold putN backN
  exact putN_back ns ys _
/-- The names are of different channels, which are there. -/
structure NamesOk (name : List Int) (k : Nat) : Prop where
 lt : ∀ n ∈ name, n < (k : Int)
 ne : name.Pairwise (fun a b => 0 ≤ a → a ≠ b)
theorem NamesOk.tail {n : Int} {ns : List Int} {k : Nat} (h : NamesOk (n :: ns) k) : NamesOk ns k := ⟨fun m hm => h.lt m (List.mem_cons_of_mem _ hm), (List.pairwise_cons.1 h.ne).2⟩
theorem NamesOk.head {n : Int} {ns : List Int} {k : Nat} (h : NamesOk (n :: ns) k) (h0 : 0 ≤ n) : ∀ m ∈ ns, n ≠ m := fun m hm => (List.pairwise_cons.1 h.ne).1 m hm h0
theorem nth_get : ∀ (L : List Piece) (i : Nat), i < L.length → L[i]? = some (nth L i)
 | A :: L, 0, _ => rfl
 | A :: L, i + 1, h => nth_get L i (by simpa using h)
theorem nth_set_ne : ∀ (L : List Piece) (i j : Nat) (A : Piece), i ≠ j → nth (L.set i A) j = nth L j
 | [], _, _, _, _ => rfl
 | B :: L, 0, 0, _, h => absurd rfl h
 | B :: L, 0, j + 1, _, _ => rfl
 | B :: L, i + 1, 0, _, _ => rfl
 | B :: L, i + 1, j + 1, A, h => nth_set_ne L i j A (by omega)
theorem pick_set {n : Int} {ns : List Int} {L : List Piece} (h0 : 0 ≤ n) (hn : ∀ m ∈ ns, n ≠ m) (A : Piece) : pickN ns (L.set n.toNat A) = pickN ns L := by
 unfold pickN
 refine List.map_congr_left (fun m hm => ?_)
 split
 ·exact nth_set_ne _ _ _ _ (by have := hn m hm; omega)
 ·rfl
theorem emps_in {w : World} {S : Nat → Prop} {L : List Piece} (h : SLs w S L) : SLs w S (emp :: L) := ⟨fun _ => False, fun _ h => h.elim, trivial, h.mono (fun k hk => ⟨hk, id⟩)⟩
theorem names_out {w : World} : ∀ (name : List Int) (L : List Piece) (S : Nat → Prop), NamesOk name L.length → SLs w S L → SLs w S (pickN name L ++ leftN name L)
 | [], L, S, _, h => h
 | n :: ns, L, S, hk, h => by
  by_cases h0 : 0 ≤ n
  ·have h1 : n.toNat < L.length := by have := hk.lt n List.mem_cons_self; omega
   have h2 := SLs.take n.toNat h (nth_get L n.toNat h1)
   have e : pickN (n :: ns) L ++ leftN (n :: ns) L = nth L n.toNat :: (pickN ns (L.set n.toNat emp) ++ leftN ns (L.set n.toNat emp)) := by
    rw [pick_set h0 (hk.head h0)]
    simp [pickN, leftN, h0]
   rw [e]
   exact SLs.congr (fun T hT => names_out ns _ T (by rw [List.length_set]; exact hk.tail) hT) h2
  ·have e : pickN (n :: ns) L ++ leftN (n :: ns) L = emp :: (pickN ns L ++ leftN ns L) := by simp [pickN, leftN, h0]
   rw [e]
   exact emps_in (names_out ns L S hk.tail h)
theorem putN_len {α : Type} : ∀ (name : List Int) (ys L : List α), (putN name ys L).length = L.length
 | [], _, _ => by unfold putN; rfl
 | n :: ns, [], L => by unfold putN; rfl
 | n :: ns, y :: ys, L => by
  unfold putN
  rw [putN_len ns ys]
  split
  ·rw [List.length_set]
  ·rfl
theorem putN_set {α : Type} : ∀ (ns : List Int) (ys L : List α) (i : Nat) (a : α), (∀ m ∈ ns, 0 ≤ m → m.toNat ≠ i) → putN ns ys (L.set i a) = (putN ns ys L).set i a
 | [], _, _, _, _, _ => by simp [putN]
 | n :: ns, [], L, _, _, _ => by simp [putN]
 | n :: ns, y :: ys, L, i, a, h => by
  unfold putN
  have ih := fun L' => putN_set ns ys L' i a (fun m hm => h m (List.mem_cons_of_mem _ hm))
  split
  ·rename_i h0
   rw [List.set_comm _ _ (fun e => h n List.mem_cons_self h0 e.symm), ih]
  ·exact ih L
theorem names_back {w : World} : ∀ (name : List Int) (Ys L : List Piece) (S : Nat → Prop), NamesOk name L.length → Ys.length = name.length → SLs w S (Ys ++ leftN name L) → SLs w S (putN name Ys L)
 | [], Ys, L, S, _, hl, h => by
  have : Ys = [] := List.eq_nil_of_length_eq_zero hl
  subst this
  unfold putN
  exact h
 | n :: ns, [], L, S, _, hl, h => by simp at hl
 | n :: ns, Y :: Ys, L, S, hk, hl, h => by
  unfold putN
  unfold leftN at h
  by_cases h0 : 0 ≤ n
  ·rw [if_pos h0] at h ⊢
   have h1 : n.toNat < L.length := by have := hk.lt n List.mem_cons_self; omega
   have h2 : SLs w S (Y :: putN ns Ys (L.set n.toNat emp)) := SLs.congr (fun T hT => names_back ns Ys _ T (by rw [List.length_set]; exact hk.tail) (by simpa using hl) hT) h
   have hne : ∀ m ∈ ns, 0 ≤ m → m.toNat ≠ n.toNat := fun m hm hm0 => by have := hk.head h0 m hm; omega
   rw [putN_set ns Ys L n.toNat emp hne] at h2
   have h3 := SLs.put (L := putN ns Ys L) n.toNat (by rw [putN_len]; exact h1) h2
   rw [← putN_set ns Ys L n.toNat Y hne] at h3
   exact h3
  ·rw [if_neg h0] at h ⊢
   exact names_back ns Ys L S hk.tail (by simpa using hl) (SLs.tl h)
def gsN (name : List Int) (ps : List Nat) : List (Option Nat) := name.map (fun n => if 0 ≤ n then ps[n.toNat]? else none)
def msN (name : List Int) (M : List PipeM) : List PipeM := name.map (fun n => if 0 ≤ n then M.getD n.toNat (emptyM 0) else emptyM 0)
theorem gsN_len (name : List Int) (ps : List Nat) : (gsN name ps).length = name.length := by simp [gsN]
theorem msN_len (name : List Int) (M : List PipeM) : (msN name M).length = name.length := by simp [msN]
theorem okN_gs {name : List Int} {ps : List Nat} (hk : NamesOk name ps.length) : oks (gsN name ps) = name.map (fun n => decide (0 ≤ n)) := by
 unfold oks gsN
 rw [List.map_map]
 refine List.map_congr_left (fun n hn => ?_)
 have := hk.lt n hn
 show (if 0 ≤ n then ps[n.toNat]? else none).isSome = _
 by_cases h0 : 0 ≤ n
 ·rw [if_pos h0, List.getElem?_eq_getElem (by omega), decide_eq_true h0]
  rfl
 ·rw [if_neg h0, decide_eq_false h0]
  rfl
theorem nth_zip {P : Nat → PipeM → Piece} : ∀ (ps : List Nat) (M : List PipeM) (i : Nat) (hi : i < ps.length) (hm : M.length = ps.length), nth (List.zipWith (pieceO P) (ps.map some) M) i = P (ps[i]) (M.getD i (emptyM 0))
 | p :: ps, x :: M, 0, _, _ => rfl
 | p :: ps, x :: M, i + 1, hi, hm => nth_zip ps M i (by simpa using hi) (by simpa using hm)
 | p :: ps, [], _, _, hm => by simp at hm
 | [], _, _, hi, _ => by simp at hi
theorem pick_zip {P : Nat → PipeM → Piece} {name : List Int} {ps : List Nat} {M : List PipeM} (hm : M.length = ps.length) (hk : NamesOk name ps.length) : pickN name (List.zipWith (pieceO P) (ps.map some) M) = List.zipWith (pieceO P) (gsN name ps) (msN name M) := by
 unfold pickN gsN msN
 rw [List.zipWith_map, List.zipWith_self]
 refine List.map_congr_left (fun n hn => ?_)
 have := hk.lt n hn
 by_cases h0 : 0 ≤ n
 ·rw [if_pos h0, if_pos h0, if_pos h0, nth_zip ps M _ (by omega) hm, List.getElem?_eq_getElem (by omega)]
  rfl
 ·rw [if_neg h0, if_neg h0]
  rfl
theorem put_zip {P : Nat → PipeM → Piece} : ∀ (name : List Int) (ps : List Nat) (M ys : List PipeM), M.length = ps.length → NamesOk name ps.length → ys.length = name.length →
  putN name (List.zipWith (pieceO P) (gsN name ps) ys) (List.zipWith (pieceO P) (ps.map some) M) = List.zipWith (pieceO P) (ps.map some) (backN name ys M)
 | [], ps, M, ys, _, _, _ => by unfold putN backN; rfl
 | n :: ns, ps, M, [], _, _, hl => by simp at hl
 | n :: ns, ps, M, y :: ys, hm, hk, hl => by
  have hlt := hk.lt n List.mem_cons_self
  have ih := fun M' (h : M'.length = ps.length) => put_zip (P := P) ns ps M' ys h hk.tail (by simpa using hl)
  show putN ns (List.zipWith (pieceO P) (gsN ns ps) ys) (if 0 ≤ n then (List.zipWith (pieceO P) (ps.map some) M).set n.toNat (pieceO P (if 0 ≤ n then ps[n.toNat]? else none) y) else _) = List.zipWith (pieceO P) (ps.map some) (backN ns ys (if 0 ≤ n then M.set n.toNat y else M))
  by_cases h0 : 0 ≤ n
  ·rw [if_pos h0, if_pos h0, if_pos h0, List.getElem?_eq_getElem (by omega)]
   have e := zip_set (P := P) (gs := ps.map some) (M := M) (i := n.toNat) (g := ps[n.toNat]'(by omega)) (by rw [List.getElem?_map, List.getElem?_eq_getElem (by omega)]; rfl) y
   show putN ns _ ((List.zipWith (pieceO P) (ps.map some) M).set n.toNat (P _ y)) = _
   rw [e]
   exact ih _ (by rw [List.length_set]; exact hm)
  ·rw [if_neg h0, if_neg h0]
   exact ih M hm
/-- The pipes by the names, out of all. -/
theorem pipes_out {w : World} {P : Nat → PipeM → Piece} {F : List Piece} {name : List Int} {ps : List Nat} {M : List PipeM} (hm : M.length = ps.length) (hk : NamesOk name ps.length) (H : SL w (all (List.zipWith (pieceO P) (ps.map some) M) :: F)) :
  SL w (all (List.zipWith (pieceO P) (gsN name ps) (msN name M)) :: all (leftN name (List.zipWith (pieceO P) (ps.map some) M)) :: F) := by
 have hl : (List.zipWith (pieceO P) (ps.map some) M).length = ps.length := by simp [hm]
 obtain ⟨T, h1, h2, h3⟩ := H
 have h4 := names_out name _ T (by rw [hl]; exact hk) (h2 : SLs w T _)
 rw [pick_zip hm hk] at h4
 obtain ⟨U, u1, u2, u3⟩ := SLs.app.1 h4
 exact ⟨U, fun k hk => h1 k (u1 k hk), u2, fun k => T k ∧ ¬ U k, fun k hk => ⟨h1 k hk.1, hk.2⟩, u3, h3.mono (fun k hk => ⟨⟨hk.1, fun hu => hk.2 (u1 k hu)⟩, fun ht => hk.2 ht.1⟩)⟩
theorem pipes_back {w : World} {P : Nat → PipeM → Piece} {F : List Piece} {name : List Int} {ps : List Nat} {M ys : List PipeM} (hm : M.length = ps.length) (hk : NamesOk name ps.length) (hy : ys.length = name.length)
  (H : SL w (all (List.zipWith (pieceO P) (gsN name ps) ys) :: all (leftN name (List.zipWith (pieceO P) (ps.map some) M)) :: F)) :
  SL w (all (List.zipWith (pieceO P) (ps.map some) (backN name ys M)) :: F) := by
 have hl : (List.zipWith (pieceO P) (ps.map some) M).length = ps.length := by simp [hm]
 obtain ⟨U, u1, u2, V, v1, v2, h3⟩ := H
 refine ⟨fun k => U k ∨ V k, fun k hk => hk.elim (u1 k) (fun h => (v1 k h).1), ?_, h3.mono (fun k hk => ⟨hk.1.1, fun h => h.elim hk.1.2 hk.2⟩)⟩
 have h4 : SLs w (fun k => U k ∨ V k) (List.zipWith (pieceO P) (gsN name ps) ys ++ leftN name (List.zipWith (pieceO P) (ps.map some) M)) :=
  SLs.app.2 ⟨U, fun k hk => .inl hk, u2, SLs.mono v2 (fun k hk => ⟨.inr hk, fun hu => (v1 k hk).2 hu⟩)⟩
 have h5 := names_back name _ _ _ (by rw [hl]; exact hk) (by simp [gsN_len, hy]) h4
 rw [put_zip name ps M ys hm hk hy] at h5
 exact h5
end Go.Proofs.YtchkaaeoffmjnaaGreatDoor
namespace Go.Proofs.YtchkaaeoffmjnaaGreatDoor
set_option linter.unusedVariables false
set_option linter.unusedSimpArgs false
open Go.RowKit Go.ChangeMaps
section
variable {P : Program} {w : World} {F L : List Piece} {te sz n c : Nat} {xs : List Value} {v : Value} {a : Option Addr} {σ : Fr} {op : Oper} {K : Value → World → Prop}
/-- The end of a function whose result stands in a block. -/
theorem retC {fn : Func} {R : Ending → World → Prop} {t ty b te : Nat} {cs : Array Value} (H : SL w L) (i : Nat) (hi : L[i]? = some (row b cs te)) (hr : fn.results = #[.cell t ty]) (hv : σ t = .pointer (some ⟨b, 0, none⟩))
  (hd : (match P.underlying ty with | some (.struct _) => true | some (.array _ _) => true | _ => false) = true) (hs : (P.info? ty).map (·.size) = some cs.size) (h : R (.returned (.agg cs)) w) : RetOf P fn R σ w := by
 cases hu : P.underlying ty with
 | none => rw [hu] at hd; cases hd
 | some d =>
  rw [hu] at hd
  cases d <;> first | cases hd; done | exact ⟨⟨_, fun a ha => results_cell_row hr a.tmps w b te cs (0, 0) _ (by rw [ha, hv]) (H.at i hi) hu rfl hs, h⟩⟩
theorem run_head {t : Nat} (x h : Operand) (hop : op.op = .slice t x none (some h) none) (ht : P.underlying t = some (.slice te)) (hsz : (P.info? te).map (·.size) = some sz) {i : Nat} (hi : i ≤ c)
  (hx : ev σ x = .slice a n c) (hh : ev σ h = .int .i64 (i : Int)) (w : World) : (execOp (ev σ) op).run P w = .ok (.value (.slice a i c)) w := by
 obtain ⟨inf, hinf, hs⟩ := Option.map_eq_some_iff.1 hsz
 have hle : (i : Int) ≤ (c : Int) := by omega
 have ha : (if c = 0 then a else a.map (·.add (0 * inf.size))) = a := by
  split
  ·rfl
  ·cases a with
   | none => rfl
   | some a =>
    obtain ⟨b, o, s⟩ := a
    simp [Addr.add]
 rw [Nat.zero_mul] at ha
 simp [execOp, hop, hx, hh, Instr.sliceAt, Instr.slice, run_underlying ht, Instr.sliceBounds, Instr.sliceBound, asIntOf, hle, sizeOf, typeInfo, hinf, Result.andThen, hi, ha]
/-- v[:i]. -/
theorem Mn.head (x h : Operand) (t : Nat) (hop : op.op = .slice t x none (some h) none) (ht : P.underlying t = some (.slice te)) (hsz : (P.info? te).map (·.size) = some sz) (i : Nat) (hi : i ≤ c)
  (hx : ev σ x = .slice a n c) (hh : ev σ h = .int .i64 (i : Int)) (k : K (.slice a i c) w) : Mn P σ op w K :=
 Mn.by (run_head x h hop ht hsz hi hx hh w) k
/-- append, the new value in a slice's form. -/
theorem SL.appF (H : SL w (Slc te sz v n xs :: F)) (s x : Operand) (t : TypeId) (z : Value) (bytes : Nat)
  (hop : op.op = .call { callee := .builtin .append, args := #[s, x], argTypes := #[t, t] })
  (ht : P.underlying t = some (.slice te)) (hinfo : (P.info? te).map (fun i => (i.zero, i.size, i.bytes)) = some (some z, sz, bytes)) (hz : z.cells.size = sz) (hs0 : 0 < sz)
  (hs : ev σ s = v) (A : Option Addr) (m cap : Nat) (news : List Value) (hx : ev σ x = .slice A m cap) (hr : Rd w sz A m news) (h1 : news.all Value.oneCell' = true) (hn : n + m < 1000000000) (hl : bytes ≤ 1000)
  (k : ∀ a c w', SL w' (Slc te sz (.slice a (n + m) c) (n + m) (xs ++ news) :: F) → K (.slice a (n + m) c) w') : Mn P σ op w K :=
 SL.app H s x t z bytes hop ht hinfo hz hs0 hs A m cap news hx hr h1 hn hl (fun v' w' H' => by
  obtain ⟨S, _, h, _⟩ := H'.on
  obtain ⟨a, c, rfl⟩ := own_form h
  exact k a c w' H')
theorem SL.slcForm (h : SL w (Slc te sz v n xs :: F)) : ∃ a c, v = .slice a n c := by
 obtain ⟨S, _, h, _⟩ := h.on
 exact own_form h
theorem SL.slcAddr (h : SL w (Slc te sz (.slice a n c) n xs :: F)) (hn : 0 < n) : ∃ g, a = some ⟨g, 0, none⟩ := by
 obtain ⟨S, _, h, _⟩ := h.on
 exact own_some h hn
end
section
variable {P : Program} {w : World} {F L : List Piece} {te sz n c : Nat} {xs : List Value} {v : Value} {σ : Fr} {op : Oper}
theorem exec_rem (x y : Operand) (t ty : Nat) (hop : op.op = .binOp .rem t x y ty) (a b : Int) (hx : ev σ x = .int .i64 a) (hy : ev σ y = .int .i64 b) (ha : 0 ≤ a) (hb : 0 < b) (w : World) : (execOp (ev σ) op).run P w = .ok (.value (.int .i64 (a % b))) w := by
 have h0 : b ≠ 0 := by omega
 have h1 : a.tmod b = a % b := Int.tmod_eq_emod_of_nonneg ha
 simp [execOp, hop, hx, hy, eqGuard, binOp, Op.intDiv, h0, h1, Result.andThen]
theorem Mn.rem {K : Value → World → Prop} (x y : Operand) (t ty : Nat) (hop : op.op = .binOp .rem t x y ty) (a b : Int) (hx : ev σ x = .int .i64 a) (hy : ev σ y = .int .i64 b) (ha : 0 ≤ a) (hb : 0 < b) (m : Int) (hm : a % b = m) (k : K (.int .i64 m) w) : Mn P σ op w K := by
 subst hm
 exact Mn.by (exec_rem x y t ty hop a b hx hy ha hb w) k
theorem MnC.rem {S : World → Prop} {K : Value → Prop} (x y : Operand) (t ty : Nat) (hop : op.op = .binOp .rem t x y ty) (a b : Int) (hx : ev σ x = .int .i64 a) (hy : ev σ y = .int .i64 b) (ha : 0 ≤ a) (hb : 0 < b) (m : Int) (hm : a % b = m) (k : K (.int .i64 m)) : MnC P S σ op K := by
 subst hm
 exact ⟨⟨_, fun w _ => exec_rem x y t ty hop a b hx hy ha hb w, k⟩⟩
/-- The value of v[1:], v a queue; the queue stays as it is. -/
theorem Mn.rest (H : SL w L) (i : Nat) (hi : L[i]? = some (Qu te sz v (n + 1) xs)) {K : Value → World → Prop} (x l : Operand) (t : Nat) (hop : op.op = .slice t x (some l) none none) (ht : P.underlying t = some (.slice te)) (hsz : (P.info? te).map (·.size) = some sz)
  (hx : ev σ x = v) (hl : ev σ l = .int .i64 1) (k : K (rest1 sz v) w) : Mn P σ op w K := by
 have h1 := H.one i hi
 obtain ⟨a, c, rfl⟩ := h1.quForm
 exact Mn.by (run_tail (lo := 0) x l hop ht hsz (by omega) h1.quLe hx hl w) k
end
theorem ints_all (l : List Int) : (ints l).all Value.oneCell' = true := by
 rw [List.all_eq_true]
 intro v hv
 unfold ints at hv
 obtain ⟨i, _, rfl⟩ := List.mem_map.1 hv
 rfl
end Go.Proofs.YtchkaaeoffmjnaaGreatDoor
namespace Go.Proofs.YtchkaaeoffmjnaaGreatDoor
set_option linter.unusedVariables false
set_option linter.unusedSimpArgs false
open Go.RowKit
set_option maxRecDepth 100000
theorem take0_some {w : World} {F : List Piece} {cb g off n c : Nat} {vo : Value} {x : Int} {l : List Int} (H : SL w (row cb #[.slice (some ⟨g, off, none⟩) (n + 1) c, vo] 160 :: Qu 3 1 (.slice (some ⟨g, off, none⟩) (n + 1) c) (n + 1) (ints (x :: l)) :: F)) : Calls Tryz.prog 106 #[.pointer (some ⟨cb, 0, none⟩)] w fun o w' => o = .returned (.tuple #[.int .i64 x, .bool true]) ∧ SL w' (row cb #[rest1 1 (.slice (some ⟨g, off, none⟩) (n + 1) c), vo] 160 :: Qu 3 1 (.slice (some ⟨g, off, none⟩) (n + 1) c) (n + 1) (ints (x :: l)) :: F) := by
 refine calls_den (args := [_]) Tryz.func106 rfl (Nat.le_of_ble_eq_true (by kernel_rfl)) (by kernel_rfl) ?_
 refine ⟨?_⟩
 refine ⟨?_⟩
 refine H.ldi 0 rfl (v := .slice (some ⟨g, off, none⟩) (n + 1) c) rfl ?_
 refine BB.no (beq_eq_false_iff_ne.2 (by omega)) ?_
 refine Cn.no ?_
 refine ⟨?_⟩
 refine H.ldi 0 rfl (v := .slice (some ⟨g, off, none⟩) (n + 1) c) rfl ?_
 refine Ix.at 0 1 (by kernel_rfl) (rfl) (Nat.succ_pos _) ?_
 refine H.ldQ 1 rfl (o := 0 * 1) (v := .int .i64 x) (rfl) ?_
 refine ⟨?_⟩
 refine H.ldi 0 rfl (v := .slice (some ⟨g, off, none⟩) (n + 1) c) rfl ?_
 refine Mn.rest H 1 rfl (.tmp 21) (.const (.int .i64 1)) 40 (by rfl) (by kernel_rfl) (by kernel_rfl) (by rfl) (by rfl) ?_
 refine H.st0 (cs' := #[(rest1 1 (.slice (some ⟨g, off, none⟩) (n + 1) c)), vo]) rfl rfl rfl fun w H => ?_
 refine ⟨?_⟩
 refine ret2 (fn := Tryz.f106) (.int .i64 x) (.bool true) rfl (by rfl) (by rfl) ?_
 exact ⟨rfl, H⟩
theorem take1_none {w : World} {F : List Piece} {cb c : Nat} {a : Option Addr} {vo : Value} (H : SL w (row cb #[vo, .slice a 0 c] 160 :: F)) : Calls Tryz.prog 106 #[.pointer (some ⟨cb, 1, none⟩)] w fun o w' => o = .returned (.tuple #[.int .i64 0, .bool false]) ∧ SL w' (row cb #[vo, .slice a 0 c] 160 :: F) := by
 refine calls_den (args := [_]) Tryz.func106 rfl (Nat.le_of_ble_eq_true (by kernel_rfl)) (by kernel_rfl) ?_
 refine ⟨?_⟩
 refine ⟨?_⟩
 refine H.ldi 0 rfl (v := .slice a 0 c) rfl ?_
 refine BB.yes rfl ?_
 refine Cn.yes ?_
 refine ⟨?_⟩
 refine ret2 (fn := Tryz.f106) (.int .i64 0) (.bool false) rfl (by rfl) (by rfl) ?_
 exact ⟨rfl, H⟩
theorem take1_some {w : World} {F : List Piece} {cb g off n c : Nat} {vo : Value} {x : Int} {l : List Int} (H : SL w (row cb #[vo, .slice (some ⟨g, off, none⟩) (n + 1) c] 160 :: Qu 3 1 (.slice (some ⟨g, off, none⟩) (n + 1) c) (n + 1) (ints (x :: l)) :: F)) : Calls Tryz.prog 106 #[.pointer (some ⟨cb, 1, none⟩)] w fun o w' => o = .returned (.tuple #[.int .i64 x, .bool true]) ∧ SL w' (row cb #[vo, rest1 1 (.slice (some ⟨g, off, none⟩) (n + 1) c)] 160 :: Qu 3 1 (.slice (some ⟨g, off, none⟩) (n + 1) c) (n + 1) (ints (x :: l)) :: F) := by
 refine calls_den (args := [_]) Tryz.func106 rfl (Nat.le_of_ble_eq_true (by kernel_rfl)) (by kernel_rfl) ?_
 refine ⟨?_⟩
 refine ⟨?_⟩
 refine H.ldi 0 rfl (v := .slice (some ⟨g, off, none⟩) (n + 1) c) rfl ?_
 refine BB.no (beq_eq_false_iff_ne.2 (by omega)) ?_
 refine Cn.no ?_
 refine ⟨?_⟩
 refine H.ldi 0 rfl (v := .slice (some ⟨g, off, none⟩) (n + 1) c) rfl ?_
 refine Ix.at 0 1 (by kernel_rfl) (rfl) (Nat.succ_pos _) ?_
 refine H.ldQ 1 rfl (o := 0 * 1) (v := .int .i64 x) (rfl) ?_
 refine ⟨?_⟩
 refine H.ldi 0 rfl (v := .slice (some ⟨g, off, none⟩) (n + 1) c) rfl ?_
 refine Mn.rest H 1 rfl (.tmp 21) (.const (.int .i64 1)) 40 (by rfl) (by kernel_rfl) (by kernel_rfl) (by rfl) (by rfl) ?_
 refine H.st0 (cs' := #[vo, (rest1 1 (.slice (some ⟨g, off, none⟩) (n + 1) c))]) rfl rfl rfl fun w H => ?_
 refine ⟨?_⟩
 refine ret2 (fn := Tryz.f106) (.int .i64 x) (.bool true) rfl (by rfl) (by rfl) ?_
 exact ⟨rfl, H⟩
theorem next_some {w : World} {F : List Piece} {cb g off n c : Nat} {vo : Value} {x : Int} {l : List Int} (H : SL w (row cb #[.slice (some ⟨g, off, none⟩) (n + 1) c, vo] 160 :: Qu 3 1 (.slice (some ⟨g, off, none⟩) (n + 1) c) (n + 1) (ints (x :: l)) :: F)) : Calls Tryz.prog 53 #[.pointer (some ⟨cb, 0, none⟩)] w fun o w' => o = .returned (.tuple #[.int .i64 x, .bool true]) ∧ SL w' (row cb #[rest1 1 (.slice (some ⟨g, off, none⟩) (n + 1) c), vo] 160 :: Qu 3 1 (.slice (some ⟨g, off, none⟩) (n + 1) c) (n + 1) (ints (x :: l)) :: F) := by
 refine calls_den (args := [_]) Tryz.func53 rfl (Nat.le_of_ble_eq_true (by kernel_rfl)) (by kernel_rfl) ?_
 refine ⟨?_⟩
 refine ⟨?_⟩
 refine BB.no rfl ?_
 refine Cn.no ?_
 refine ⟨?_⟩
 refine Mn.pure (.func (.func 106) #[.pointer (some ⟨cb, 0, none⟩)] #[]) (by kernel_rfl) ?_
 refine ⟨?_⟩
 refine Cl.sl (by kernel_rfl) (take0_some H) fun w H => ?_
 refine ret2 (fn := Tryz.f53) (.int .i64 x) (.bool true) rfl (by rfl) (by rfl) ?_
 exact ⟨rfl, H⟩
theorem left_open {w : World} {F : List Piece} {cb n c m d : Nat} {a b : Option Addr} (H : SL w (row cb #[.slice a n c, .slice b m d] 160 :: F)) : Calls Tryz.prog 51 #[.pointer (some ⟨cb, 0, none⟩)] w fun o w' => o = .returned (.tuple #[.int .i64 n, .int .i64 m]) ∧ SL w' (row cb #[.slice a n c, .slice b m d] 160 :: F) := by
 refine calls_den (args := [_]) Tryz.func51 rfl (Nat.le_of_ble_eq_true (by kernel_rfl)) (by kernel_rfl) ?_
 refine ⟨?_⟩
 refine ⟨?_⟩
 refine BB.no rfl ?_
 refine Cn.no ?_
 refine ⟨?_⟩
 refine Drw.of [(0, true), (1, true), (2, true), (3, true), (4, true), (5, true), (6, true), (7, true), (8, true), (9, true), (10, true), (11, true), (12, true), (13, true)] (by kernel_rfl) mixed (fun w => SL w _) H.drew ?_
 replace H := H.drew
 refine LdC.i 0 rfl (v := .slice a n c) rfl ?_
 refine LdC.i 0 rfl (v := .slice b m d) rfl ?_
 refine ret2 (fn := Tryz.f51) (.int .i64 ↑n) (.int .i64 ↑m) rfl (by rfl) (by rfl) ?_
 exact ⟨rfl, H⟩
theorem copy_open {w : World} {F : List Piece} {cb : Nat} {v1 v2 : Value} (h1 : v1.oneCell' = true) (h2 : v2.oneCell' = true) (H : SL w (row cb #[v1, v2] 160 :: F)) : Calls Tryz.prog 103 #[.pointer (some ⟨cb, 0, none⟩)] w fun o w' => ∃ b, o = .returned (.pointer (some ⟨b, 0, none⟩)) ∧ SL w' (row b #[v1, v2] 160 :: row cb #[v1, v2] 160 :: F) := by
 refine calls_den (args := [_]) Tryz.func103 rfl (Nat.le_of_ble_eq_true (by kernel_rfl)) (by kernel_rfl) ?_
 refine ⟨?_⟩
 refine ⟨?_⟩
 refine BB.no rfl ?_
 refine Cn.no ?_
 refine ⟨?_⟩
 refine H.ldi 0 rfl (v := v1) rfl ?_
 refine H.ldi 0 rfl (v := v2) rfl ?_
 refine Nw.as #[.slice none 0 0, .slice none 0 0] 160 rfl H fun b3 w H => ?_
 refine H.st0 (cs' := #[v1, .slice none 0 0]) rfl rfl (by first | rfl | exact h1 | exact h2) fun w H => ?_
 refine H.st0 (cs' := #[v1, v2]) rfl rfl (by first | rfl | exact h1 | exact h2) fun w H => ?_
 refine ⟨?_⟩
 refine ret1 (fn := Tryz.f103) (.pointer (some ⟨b3, 0, none⟩)) rfl (by rfl) ?_
 exact ⟨b3, rfl, H⟩
theorem draw_one {w : World} {F : List Piece} {cb : Nat} {v1 v2 : Value} (H : SL w (row cb #[v1, v2] 160 :: F)) : Calls Tryz.prog 165 #[.pointer (some ⟨cb, 0, none⟩), .int .i64 1] w fun o w' => o = .returned (.tuple #[.int .i64 0, .int .i64 0]) ∧ SL w' (row cb #[v1, v2] 160 :: F) := by
 refine calls_den (args := [_, _]) Tryz.func165 rfl (Nat.le_of_ble_eq_true (by kernel_rfl)) (by kernel_rfl) ?_
 refine ⟨?_⟩
 refine ⟨?_⟩
 refine BB.no rfl ?_
 refine BB.no rfl ?_
 refine Cn.no ?_
 refine ⟨?_⟩
 refine BB.no rfl ?_
 refine BB.yes rfl ?_
 refine Cn.yes ?_
 refine ⟨?_⟩
 refine ret2 (fn := Tryz.f165) (.int .i64 0) (.int .i64 0) rfl (by rfl) (by rfl) ?_
 exact ⟨rfl, H⟩
theorem draw_none {w : World} {F : List Piece} {cb c : Nat} {a : Option Addr} {vo : Value} {n : Int} (h0 : 2 ≤ n) (h1 : n ≤ 64) (H : SL w (row cb #[vo, .slice a 0 c] 160 :: F)) : Calls Tryz.prog 165 #[.pointer (some ⟨cb, 0, none⟩), .int .i64 n] w fun o w' => o = .returned (.tuple #[.int .i64 0, .int .i64 0]) ∧ SL w' (row cb #[vo, .slice a 0 c] 160 :: F) := by
 refine calls_den (args := [_, _]) Tryz.func165 rfl (Nat.le_of_ble_eq_true (by kernel_rfl)) (by kernel_rfl) ?_
 refine ⟨?_⟩
 refine ⟨?_⟩
 refine BB.no (decide_eq_false (by omega)) ?_
 refine BB.no (decide_eq_false (by omega)) ?_
 refine Cn.no ?_
 refine ⟨?_⟩
 refine BB.no rfl ?_
 refine BB.no (beq_eq_false_iff_ne.2 (by omega)) ?_
 refine Cn.no ?_
 refine ⟨?_⟩
 refine Mn.pure (.func (.func 106) #[.pointer (some ⟨cb, 1, none⟩)] #[]) (by kernel_rfl) ?_
 refine ⟨?_⟩
 refine Cl.sl (by kernel_rfl) (take1_none H) fun w H => ?_
 refine ⟨?_⟩
 refine Mn.rem (.tmp 30) (.tmp 31) 3 3 (by rfl) 0 n (by rfl) (by rfl) ((by omega)) ((by omega)) 0 (Int.zero_emod n) ?_
 refine ret2 (fn := Tryz.f165) (.int .i64 0) (.int .i64 0) rfl (by rfl) (by rfl) ?_
 exact ⟨rfl, H⟩
theorem draw_some {w : World} {F : List Piece} {cb g off k c : Nat} {vo : Value} {n x : Int} {l : List Int} (h0 : 2 ≤ n) (h1 : n ≤ 64) (hx : 0 ≤ x) (H : SL w (row cb #[vo, .slice (some ⟨g, off, none⟩) (k + 1) c] 160 :: Qu 3 1 (.slice (some ⟨g, off, none⟩) (k + 1) c) (k + 1) (ints (x :: l)) :: F)) : Calls Tryz.prog 165 #[.pointer (some ⟨cb, 0, none⟩), .int .i64 n] w fun o w' => o = .returned (.tuple #[.int .i64 (x % n), .int .i64 0]) ∧ SL w' (row cb #[vo, rest1 1 (.slice (some ⟨g, off, none⟩) (k + 1) c)] 160 :: Qu 3 1 (.slice (some ⟨g, off, none⟩) (k + 1) c) (k + 1) (ints (x :: l)) :: F) := by
 refine calls_den (args := [_, _]) Tryz.func165 rfl (Nat.le_of_ble_eq_true (by kernel_rfl)) (by kernel_rfl) ?_
 refine ⟨?_⟩
 refine ⟨?_⟩
 refine BB.no (decide_eq_false (by omega)) ?_
 refine BB.no (decide_eq_false (by omega)) ?_
 refine Cn.no ?_
 refine ⟨?_⟩
 refine BB.no rfl ?_
 refine BB.no (beq_eq_false_iff_ne.2 (by omega)) ?_
 refine Cn.no ?_
 refine ⟨?_⟩
 refine Mn.pure (.func (.func 106) #[.pointer (some ⟨cb, 1, none⟩)] #[]) (by kernel_rfl) ?_
 refine ⟨?_⟩
 refine Cl.sl (by kernel_rfl) (take1_some H) fun w H => ?_
 refine ⟨?_⟩
 refine Mn.rem (.tmp 30) (.tmp 31) 3 3 (by rfl) x n (by rfl) (by rfl) (hx) ((by omega)) (x % n) (rfl) ?_
 refine ret2 (fn := Tryz.f165) (.int .i64 (x % n)) (.int .i64 0) rfl (by rfl) (by rfl) ?_
 exact ⟨rfl, H⟩
/-- A cursor: what is left of the plan and of the draws. -/
def CurP (cb : Nat) (pl dr : List Int) : Piece := exP fun (v : Value × Value) => all [row cb #[v.1, v.2] 160, Qu 3 1 v.1 pl.length (ints pl), Qu 3 1 v.2 dr.length (ints dr)]
theorem CurP.iff {w : World} {F : List Piece} {cb : Nat} {pl dr : List Int} : SL w (CurP cb pl dr :: F) ↔ ∃ v1 v2, SL w (row cb #[v1, v2] 160 :: Qu 3 1 v1 pl.length (ints pl) :: Qu 3 1 v2 dr.length (ints dr) :: F) :=
 ⟨fun h => by
  obtain ⟨v, h⟩ := SL.exP.1 h
  exact ⟨v.1, v.2, SL.all.1 h⟩, fun ⟨v1, v2, h⟩ => SL.exP.2 ⟨(v1, v2), SL.all.2 h⟩⟩
section
variable {w : World} {F : List Piece} {cb : Nat} {pl dr : List Int} {x : Int}
theorem cur_left (H : SL w (CurP cb pl dr :: F)) : Calls Tryz.prog 51 #[.pointer (some ⟨cb, 0, none⟩)] w fun o w' => o = .returned (.tuple #[.int .i64 pl.length, .int .i64 dr.length]) ∧ SL w' (CurP cb pl dr :: F) := by
 obtain ⟨v1, v2, H⟩ := CurP.iff.1 H
 obtain ⟨a, c, rfl⟩ := SL.quForm H.up1
 obtain ⟨b, d, rfl⟩ := SL.quForm H.up2
 exact (left_open H).mono (fun o w' q => ⟨q.1, CurP.iff.2 ⟨_, _, q.2⟩⟩)
theorem cur_next (H : SL w (CurP cb (x :: pl) dr :: F)) : Calls Tryz.prog 53 #[.pointer (some ⟨cb, 0, none⟩)] w fun o w' => o = .returned (.tuple #[.int .i64 x, .bool true]) ∧ SL w' (CurP cb pl dr :: F) := by
 obtain ⟨v1, v2, H⟩ := CurP.iff.1 H
 obtain ⟨g, off, c, rfl⟩ := SL.quSome H.up1 (Nat.succ_pos _)
 exact (next_some H).mono (fun o w' q => ⟨q.1, CurP.iff.2 ⟨_, _, (SL.quTail q.2.up1).up1⟩⟩)
theorem cur_copy (H : SL w (CurP cb (x :: pl) dr :: F)) : Calls Tryz.prog 103 #[.pointer (some ⟨cb, 0, none⟩)] w fun o w' => ∃ b, o = .returned (.pointer (some ⟨b, 0, none⟩)) ∧
  ∃ g off c v2, SL w' (row b #[.slice (some ⟨g, off, none⟩) (pl.length + 1) c, v2] 160 :: Qu 3 1 (.slice (some ⟨g, off, none⟩) (pl.length + 1) c) (pl.length + 1) (ints (x :: pl)) :: row cb #[.slice (some ⟨g, off, none⟩) (pl.length + 1) c, v2] 160 :: Qu 3 1 v2 dr.length (ints dr) :: F) := by
 obtain ⟨v1, v2, H⟩ := CurP.iff.1 H
 obtain ⟨g, off, c, rfl⟩ := SL.quSome H.up1 (Nat.succ_pos _)
 obtain ⟨b, d, rfl⟩ := SL.quForm H.up2
 exact (copy_open rfl rfl H).mono (fun o w' ⟨b, q1, q2⟩ => ⟨b, q1, g, off, c, _, q2.up2.up1⟩)
/-- The copy is thrown away. -/
theorem cur_uncopy {b g off c : Nat} {v1 v2 : Value} (H : SL w (row b #[v1, v2] 160 :: Qu 3 1 (.slice (some ⟨g, off, none⟩) (pl.length + 1) c) (pl.length + 1) (ints (x :: pl)) :: row cb #[.slice (some ⟨g, off, none⟩) (pl.length + 1) c, v2] 160 :: Qu 3 1 v2 dr.length (ints dr) :: F)) : SL w (CurP cb (x :: pl) dr :: F) :=
 CurP.iff.2 ⟨_, _, H.tl.up1⟩
theorem cur_draw {n : Nat} (h0 : 1 ≤ n) (h1 : n ≤ 64) (hd : ∀ y ∈ dr, 0 ≤ y) (H : SL w (CurP cb pl dr :: F)) : Calls Tryz.prog 165 #[.pointer (some ⟨cb, 0, none⟩), .int .i64 n] w fun o w' =>
  o = .returned (.tuple #[.int .i64 ((if n = 1 ∨ dr.length = 0 then 0 else (dr.getD 0 0).toNat % n : Nat) : Int), .int .i64 0]) ∧ SL w' (CurP cb pl (if n = 1 then dr else dr.tail) :: F) := by
 obtain ⟨v1, v2, H⟩ := CurP.iff.1 H
 by_cases h : n = 1
 ·subst h
  exact (draw_one H).mono (fun o w' q => ⟨by rw [q.1]; rfl, CurP.iff.2 ⟨_, _, q.2⟩⟩)
 ·cases dr with
  | nil =>
   obtain ⟨b, d, rfl⟩ := SL.quForm H.up2
   refine (draw_none (by omega) (by omega) H).mono (fun o w' q => ⟨?_, ?_⟩)
   ·rw [q.1, if_pos (.inr rfl)]
    rfl
   ·rw [if_neg h]
    exact CurP.iff.2 ⟨_, _, q.2⟩
  | cons y dr =>
   have hy := hd y List.mem_cons_self
   obtain ⟨g, off, c, rfl⟩ := SL.quSome H.up2 (Nat.succ_pos _)
   have H' := H.up2.up1
   refine (draw_some (n := (n : Int)) (by omega) (by omega) hy H').mono (fun o w' q => ⟨?_, ?_⟩)
   ·rw [q.1, if_neg (by simp [h])]
    obtain ⟨m, rfl⟩ := Int.eq_ofNat_of_zero_le hy
    rfl
   ·rw [if_neg h]
    exact CurP.iff.2 ⟨_, _, (SL.quTail q.2.up1).dn2⟩
end
end Go.Proofs.YtchkaaeoffmjnaaGreatDoor
namespace Go.Proofs.YtchkaaeoffmjnaaGreatDoor
set_option linter.unusedVariables false
set_option linter.unusedSimpArgs false
open Go.RowKit
section
variable {w : World} {F : List Piece} {gs : List (Option Nat)} {M : List PipeM}
theorem take_ps (hM : M.length = gs.length) {i g : Nat} (h3 : gs[i]? = some (some g)) (H : SL w (PsP gs M :: F)) : SL w (PipeP g (M.getD i (emptyM 0)) :: all ((List.zipWith (pieceO PipeP) gs M).set i emp) :: F) := by
 have hi : i < M.length := by rw [hM]; exact (List.getElem?_eq_some_iff.1 h3).1
 rw [List.getD_eq_getElem?_getD, List.getElem?_eq_getElem hi]
 exact all_take (P := PipeP) h3 (List.getElem?_eq_getElem hi) H
theorem put_ps (hM : M.length = gs.length) {i g : Nat} (h3 : gs[i]? = some (some g)) {y : PipeM} (H : SL w (PipeP g y :: all ((List.zipWith (pieceO PipeP) gs M).set i emp) :: F)) : SL w (PsP gs (M.set i y) :: F) := by
 have hi : i < M.length := by rw [hM]; exact (List.getElem?_eq_some_iff.1 h3).1
 exact all_put (P := PipeP) h3 (List.getElem?_eq_getElem hi) H
/-- A send, or a receive, on the pipe of a name. -/
theorem ps_send {n : Nat} (hM : M.length = gs.length) (hI : AllInv n M) (hn : n ≤ 1000000) (c : CaseM) (hs : c.send = true) (H : SL w (PsP gs M :: F)) :
  Calls Tryz.prog 195 #[adr (nm gs c.chan), .int .i64 c.value] w fun e w' => e = .returned (.tuple #[(tryF (oks gs) M c).1.1.agg, .int .i64 (tryF (oks gs) M c).1.2]) ∧ SL w' (PsP gs (tryF (oks gs) M c).2 :: F) := by
 unfold tryF
 rcases nm_pos gs c.chan with ⟨h1, h2⟩ | ⟨i, g, h1, h2, h3, h4⟩
 ·rw [h1, h2]
  refine (pipe_send_nil c.value w).mono ?_
  rintro e w' ⟨rfl, f⟩
  exact ⟨rfl, H.later f⟩
 ·rw [h1, h2]
  dsimp only
  rw [if_pos hs]
  have hi : i < M.length := by rw [hM]; exact (List.getElem?_eq_some_iff.1 h3).1
  refine (sl_send c.value (hI.get hi) hn (take_ps hM h3 H)).mono ?_
  rintro e w' ⟨rfl, H1⟩
  exact ⟨rfl, put_ps hM h3 H1⟩
theorem ps_recv {n : Nat} (hM : M.length = gs.length) (hI : AllInv n M) (hn : n ≤ 1000000) (c : CaseM) (hs : c.send = false) (H : SL w (PsP gs M :: F)) :
  Calls Tryz.prog 196 #[adr (nm gs c.chan)] w fun e w' => e = .returned (tryF (oks gs) M c).1.1.agg ∧ (tryF (oks gs) M c).1.2 = 0 ∧ SL w' (PsP gs (tryF (oks gs) M c).2 :: F) := by
 unfold tryF
 rcases nm_pos gs c.chan with ⟨h1, h2⟩ | ⟨i, g, h1, h2, h3, h4⟩
 ·rw [h1, h2]
  refine (pipe_recv_nil w).mono ?_
  rintro e w' ⟨rfl, f⟩
  exact ⟨rfl, rfl, H.later f⟩
 ·rw [h1, h2]
  dsimp only
  rw [if_neg (by rw [hs]; simp)]
  have hi : i < M.length := by rw [hM]; exact (List.getElem?_eq_some_iff.1 h3).1
  have hx := hI.get hi
  refine (sl_recv (by have := hx.snd.1; omega) hx.buf (hx.cnt (by omega)) (take_ps hM h3 H)).mono ?_
  rintro e w' ⟨rfl, H1⟩
  exact ⟨rfl, rfl, put_ps hM h3 H1⟩
set_option maxRecDepth 100000 in
set_option maxHeartbeats 1000000 in
theorem f_try {B : Piece} {b : Option Addr} {cb m n : Nat} (c : CaseM) (hM : M.length = gs.length) (hm : m = gs.length) (hB : Reader B 1 b m (pcs gs)) (hI : AllInv n M) (hn : n ≤ 1000000) (H : SL w (PsP gs M :: B :: F)) :
  Calls Tryz.prog 158 #[c.agg, .slice b m cb] w fun e w' => e = .returned (.tuple #[(tryF (oks gs) M c).1.1.agg, .int .i64 (tryF (oks gs) M c).1.2]) ∧ SL w' (PsP gs (tryF (oks gs) M c).2 :: B :: F) := by
 subst hm
 have k1 := fun (w' : World) (h : Rd w' 1 b gs.length (pcs gs)) => f_named (cap := cb) c.chan rfl h
 have k2 := fun hs (w' : World) (F' : List Piece) (H : SL w' (PsP gs M :: F')) => ps_send hM hI hn c hs H
 have k3 := fun hs (w' : World) (F' : List Piece) (H : SL w' (PsP gs M :: F')) => ps_recv hM hI hn c hs H
 obtain ⟨pv, hpv⟩ : ∃ p, adr (nm gs c.chan) = p := ⟨_, rfl⟩
 obtain ⟨R, hR⟩ : ∃ R, tryF (oks gs) M c = R := ⟨_, rfl⟩
 rw [hpv] at k1 k2 k3
 rw [hR] at k2 k3
 rw [hR]
 clear hpv hR
 obtain ⟨⟨⟨y1, y2, y3, y4, ⟨zg, zc, zv⟩⟩, ye⟩, y⟩ := R
 obtain ⟨cs, cc, cv⟩ := c
 unfold GotM.agg at k2 k3
 unfold GotM.agg CaseM.agg
 dsimp only at k1 k2 k3 ⊢
 have K1 := Lib.hid k1
 have K2 := Lib.hid k2
 have K3 := Lib.hid k3
 have HMM := Lib.hid hM
 clear k1 k2 k3 hM hI
 cases cs with
 | true =>
  go_enter Tryz.func158, Tryz.ntmps158
  go_wp2_with fail
  have H2 := (H.alloc (.cells #[.bool true, .int .i64 cc, .int .i64 cv] 154)).alloc (.cells #[.bool false, .bool false, .bool false, .int .i64 0, .int .i64 0, .int .i64 0, .int .i64 0] 227)
  rw [size_alloc] at H2
  obtain ⟨bc, hbc⟩ : ∃ b, w.heap.size = b := ⟨_, rfl⟩
  obtain ⟨r, hr⟩ : ∃ b, bc + 1 = b := ⟨_, rfl⟩
  obtain ⟨W, hW⟩ : ∃ W, (w.alloc (.cells #[.bool true, .int .i64 cc, .int .i64 cv] 154)).alloc (.cells #[.bool false, .bool false, .bool false, .int .i64 0, .int .i64 0, .int .i64 0, .int .i64 0] 227) = W := ⟨_, rfl⟩
  rw [hbc, hr, hW] at H2
  simp only [hW, hbc, hr]
  clear hbc hr hW
  obtain ⟨r0, r1, r2, r3, r4, r5, r6, rf⟩ := box7 (H2.at 0 rfl)
  obtain ⟨c0, c1, c2, cf⟩ := pew_cells (H2.at 1 rfl)
  have rl := lt_of_block (H2.at 0 rfl)
  have cl := lt_of_block (H2.at 1 rfl)
  obtain ⟨n1, n2⟩ := H2.ne 0 1 (by decide) rfl rfl
  refine (K1.out _ (H2.up3.read hB)).mono ?_
  rintro e w' ⟨rfl, rfl⟩
  go_wp2_with fail
  refine (K2.out trivial _ _ H2.up2).mono ?_
  rintro e w1 ⟨rfl, H3⟩
  clear r0 r1 r2 r3 r4 r5 r6 rf c0 c1 c2 cf rl cl n1 n2
  obtain ⟨r0, r1, r2, r3, r4, r5, r6, rf⟩ := box7 (H3.at 1 rfl)
  obtain ⟨c0, c1, c2, cf⟩ := pew_cells (H3.at 2 rfl)
  have rl := lt_of_block (H3.at 1 rfl)
  have cl := lt_of_block (H3.at 2 rfl)
  obtain ⟨n1, n2⟩ := H3.ne 1 2 (by decide) rfl rfl
  go_wp2_with fail
  refine bodyPost_ret (v := .tuple #[.agg #[.bool y1, .bool y2, .bool y3, .int .i64 y4, .int .i64 zg, .int .i64 zc, .int .i64 zv], .int .i64 ye]) (by simp [results, Tryz.results158, go_sem, r0, r1, r2, r3, r4, r5, r6, rl, n1, n2]) rfl ⟨rfl, SL.tl (A := any r) ?_⟩
  have HE := H3.drop2.up1.toAny
  repeat (first | with_reducible refine SL.scr ?_ _ _ | with_reducible refine SL.allocd ?_ _ | with_reducible exact HE)
 | false =>
  go_enter Tryz.func158, Tryz.ntmps158
  go_wp2_with fail
  have H2 := (H.alloc (.cells #[.bool false, .int .i64 cc, .int .i64 cv] 154)).alloc (.cells #[.bool false, .bool false, .bool false, .int .i64 0, .int .i64 0, .int .i64 0, .int .i64 0] 227)
  rw [size_alloc] at H2
  obtain ⟨bc, hbc⟩ : ∃ b, w.heap.size = b := ⟨_, rfl⟩
  obtain ⟨r, hr⟩ : ∃ b, bc + 1 = b := ⟨_, rfl⟩
  obtain ⟨W, hW⟩ : ∃ W, (w.alloc (.cells #[.bool false, .int .i64 cc, .int .i64 cv] 154)).alloc (.cells #[.bool false, .bool false, .bool false, .int .i64 0, .int .i64 0, .int .i64 0, .int .i64 0] 227) = W := ⟨_, rfl⟩
  rw [hbc, hr, hW] at H2
  simp only [hW, hbc, hr]
  clear hbc hr hW
  obtain ⟨r0, r1, r2, r3, r4, r5, r6, rf⟩ := box7 (H2.at 0 rfl)
  obtain ⟨c0, c1, c2, cf⟩ := pew_cells (H2.at 1 rfl)
  have rl := lt_of_block (H2.at 0 rfl)
  have cl := lt_of_block (H2.at 1 rfl)
  obtain ⟨n1, n2⟩ := H2.ne 0 1 (by decide) rfl rfl
  refine (K1.out _ (H2.up3.read hB)).mono ?_
  rintro e w' ⟨rfl, rfl⟩
  go_wp2_with fail
  refine (K3.out trivial _ _ H2.up2).mono ?_
  rintro e w1 ⟨rfl, rfl, H3⟩
  clear r0 r1 r2 r3 r4 r5 r6 rf c0 c1 c2 cf rl cl n1 n2
  obtain ⟨r0, r1, r2, r3, r4, r5, r6, rf⟩ := box7 (H3.at 1 rfl)
  obtain ⟨c0, c1, c2, cf⟩ := pew_cells (H3.at 2 rfl)
  have rl := lt_of_block (H3.at 1 rfl)
  have cl := lt_of_block (H3.at 2 rfl)
  obtain ⟨n1, n2⟩ := H3.ne 1 2 (by decide) rfl rfl
  go_wp2_with fail
  refine bodyPost_ret (v := .tuple #[.agg #[.bool y1, .bool y2, .bool y3, .int .i64 y4, .int .i64 zg, .int .i64 zc, .int .i64 zv], .int .i64 0]) (by simp [results, Tryz.results158, go_sem, r0, r1, r2, r3, r4, r5, r6, rl, n1, n2]) rfl ⟨rfl, SL.tl (A := any r) ?_⟩
  have HE := H3.drop2.up1.toAny
  repeat (first | with_reducible refine SL.scr ?_ _ _ | with_reducible refine SL.allocd ?_ _ | with_reducible exact HE)
end
end Go.Proofs.YtchkaaeoffmjnaaGreatDoor
