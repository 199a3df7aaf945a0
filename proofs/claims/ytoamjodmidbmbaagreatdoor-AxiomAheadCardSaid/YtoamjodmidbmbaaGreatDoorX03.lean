/- Texts of the proof. -/
import Derived.Test.YtoamjodmidbmbaaGreatDoorX01
import Derived.Deep.DeepMust
import Derived.Deep.QuietTactic
import Derived.BigQuiet
import Derived.Test.YtoamjodmidbmbaaGreatDoorX02
set_option linter.unusedVariables false
set_option linter.unusedSimpArgs false
namespace Go.Proofs.YtoamjodmidbmbaaGreatDoor
open Go.RowKit
structure One where
 program : Int
 place : Int
 state : Int
 deriving DecidableEq
def One.cells (x : One) : List Value := [.int .i64 x.program, .int .i64 x.place, .int .i64 x.state]
theorem One.cells_length (x : One) : x.cells.length = 3 := rfl
theorem ones_set : ∀ (L : List One) (g : Nat) (x : One), g < L.length →
  (L.set g x).flatMap One.cells = ((((L.flatMap One.cells).set (g * 3) (.int .i64 x.program)).set (g * 3 + 1) (.int .i64 x.place))).set (g * 3 + 2) (.int .i64 x.state)
 | [], _, _, h => absurd h (Nat.not_lt_zero _)
 | y :: l, 0, x, _ => by simp [One.cells]
 | y :: l, g + 1, x, h => by
  rw [List.set_cons_succ, List.flatMap_cons, List.flatMap_cons, ones_set l g x (by simpa using h)]
  rw [show (g + 1) * 3 = y.cells.length + g * 3 from by rw [One.cells_length]; omega]
  simp only [Nat.add_assoc]
  simp [List.set_append_right]
theorem set_same {l : List Value} {i : Nat} {v : Value} (h : l[i]? = some v) : l.set i v = l := by
 obtain ⟨hi, rfl⟩ := List.getElem?_eq_some_iff.1 h
 exact List.set_getElem_self hi
def OnesAt (tc te : Nat) (w : World) (S : Nat → Prop) (c : Nat) (L : List One) : Prop :=
 ∃ v, w.heap[c]? = some (.cells #[v] tc (0, 0)) ∧ w.ownsRow 0 te 3 v L.length (L.flatMap One.cells) ∧ S c ∧ ∀ k, v.ownBlock = some k → S k ∧ k ≠ c
theorem OnesAt.move {tc te : Nat} {w w' : World} {S : Nat → Prop} {c : Nat} {L : List One} (h : OnesAt tc te w S c L) (hm : ∀ k, S k → w'.heap[k]? = w.heap[k]?) : OnesAt tc te w' S c L := by
 obtain ⟨v, h1, h2, h3, h4⟩ := h
 exact ⟨v, (hm c h3).trans h1, own_move h2 (fun k hk => hm k (h4 k hk).1), h3, h4⟩
theorem OnesAt.mono {tc te : Nat} {w : World} {S T : Nat → Prop} {c : Nat} {L : List One} (h : OnesAt tc te w S c L) (hm : ∀ k, S k → T k) : OnesAt tc te w T c L := by
 obtain ⟨v, h1, h2, h3, h4⟩ := h
 exact ⟨v, h1, h2, hm c h3, fun k hk => ⟨hm k (h4 k hk).1, (h4 k hk).2⟩⟩
theorem OnesAt.bound {tc te : Nat} {w : World} {S : Nat → Prop} {c : Nat} {L : List One} (h : OnesAt tc te w S c L) : OnesAt tc te w (fun k => S k ∧ k < w.heap.size) c L := by
 obtain ⟨v, h1, h2, h3, h4⟩ := h
 exact ⟨v, h1, h2, ⟨h3, lt_of_block h1⟩, fun k hk => ⟨⟨(h4 k hk).1, own_lt h2 hk⟩, (h4 k hk).2⟩⟩
theorem OnesAt.move' {tc te : Nat} {w w' : World} {S : Nat → Prop} {c : Nat} {L : List One} (h : OnesAt tc te w (fun k => S k ∧ k < w.heap.size) c L) (hf : Frm Nil w w') : OnesAt tc te w' S c L :=
 (h.move (fun k hk => hf.block k hk.2 id)).mono (fun _ hk => hk.1)
theorem OnesAt.alloc {tc te : Nat} {w : World} {S : Nat → Prop} {c : Nat} {L : List One} (h : OnesAt tc te w S c L) (o : Obj) : OnesAt tc te (w.alloc o) S c L := h.bound.move' ((Frm.refl Nil w).alloc o)
theorem OnesAt.cells {tc te : Nat} {w : World} {S : Nat → Prop} {c : Nat} {L : List One} (h : OnesAt tc te w S c L) :
  ∃ a cap, w.cell? ⟨c, 0, none⟩ = some (.slice a L.length cap) ∧ w.frozen? ⟨c, 0, none⟩ = false ∧ L.length ≤ maxLen ∧
   (0 < L.length → ∃ b, a = some ⟨b, 0, none⟩ ∧ S b ∧ b ≠ c ∧ (∀ j, w.frozen? ⟨b, j, none⟩ = false) ∧
    ∀ g (hg : g < L.length), w.cell? ⟨b, g * 3, none⟩ = some (.int .i64 L[g].program) ∧ w.cell? ⟨b, g * 3 + 1, none⟩ = some (.int .i64 L[g].place) ∧ w.cell? ⟨b, g * 3 + 2, none⟩ = some (.int .i64 L[g].state)) := by
 obtain ⟨v, h1, h2, h3, h4⟩ := h
 obtain ⟨a, cap, rfl⟩ := own_form h2
 refine ⟨a, cap, cell_of_one h1, free_of_one h1, own_max h2, fun hn => ?_⟩
 obtain ⟨b, rfl⟩ := own_some h2 hn
 refine ⟨b, rfl, (h4 b rfl).1, (h4 b rfl).2, fun j => h2.frozenAt j, fun g hg => ?_⟩
 have key : ∀ j, j < 3 → w.cell? ⟨b, g * 3 + j, none⟩ = (L[g].cells)[j]? := fun j hj => by
  rw [h2.cellAt (g * 3 + j) (by omega), flat_get One.cells 3 One.cells_length L g j hj hg]
 exact ⟨key 0 (by omega), key 1 (by omega), key 2 (by omega)⟩
theorem OnesAt.stored {tc te : Nat} {w : World} {S : Nat → Prop} {c b : Nat} {cap : Nat} {L : List One} (h : OnesAt tc te w S c L) (hc : w.cell? ⟨c, 0, none⟩ = some (.slice (some ⟨b, 0, none⟩) L.length cap)) (g : Nat) (hg : g < L.length) (plz st : Int) :
  OnesAt tc te ((w.setCell ⟨b, g * 3 + 2, none⟩ (.int .i64 st)).setCell ⟨b, g * 3 + 1, none⟩ (.int .i64 plz)) S c (L.set g ⟨L[g].program, plz, st⟩) := by
 obtain ⟨v, h1, h2, h3, h4⟩ := h
 rw [cell_of_one h1] at hc
 injection hc with hc
 subst hc
 have hne : c ≠ b := (h4 b rfl).2.symm
 refine ⟨_, ?_, ?_, h3, h4⟩
 ·rw [Below.heap_setCell _ _ _ _ hne, Below.heap_setCell _ _ _ _ hne]
  exact h1
 ·have h5 := ((h2.stored (g * 3 + 2) (.int .i64 st)).1.stored (g * 3 + 1) (.int .i64 plz)).1
  rw [List.length_set]
  have e : (L.set g ⟨L[g].program, plz, st⟩).flatMap One.cells = ((L.flatMap One.cells).set (g * 3 + 2) (.int .i64 st)).set (g * 3 + 1) (.int .i64 plz) := by
   rw [ones_set L g _ hg, List.set_comm _ _ (by omega)]
   congr 2
   have h0 := flat_get One.cells 3 One.cells_length L g 0 (by omega) hg
   rw [Nat.add_zero] at h0
   apply List.ext_getElem?
   intro i
   rw [List.getElem?_set]
   split
   ·rename_i hi
    subst hi
    rw [h0]
    split
    ·rfl
    ·rename_i hlt
     rw [List.getElem?_eq_none (by omega)] at h0
     simp [One.cells] at h0
   ·rfl
  rw [e]
  exact h5
theorem OnesAt.stored1 {tc te : Nat} {w : World} {S : Nat → Prop} {c b : Nat} {cap : Nat} {L : List One} (h : OnesAt tc te w S c L) (hc : w.cell? ⟨c, 0, none⟩ = some (.slice (some ⟨b, 0, none⟩) L.length cap)) (g : Nat) (hg : g < L.length) (st : Int) :
  OnesAt tc te (w.setCell ⟨b, g * 3 + 2, none⟩ (.int .i64 st)) S c (L.set g ⟨L[g].program, L[g].place, st⟩) := by
 have h0 := h
 obtain ⟨v, h1, h2, h3, h4⟩ := h
 have hc' := hc
 rw [cell_of_one h1] at hc
 injection hc with hc
 subst hc
 have hne : c ≠ b := (h4 b rfl).2.symm
 refine ⟨_, ?_, ?_, h3, h4⟩
 ·rw [Below.heap_setCell _ _ _ _ hne]
  exact h1
 ·have h5 := (h2.stored (g * 3 + 2) (.int .i64 st)).1
  rw [List.length_set]
  have key : ∀ j, j < 3 → (L.flatMap One.cells)[g * 3 + j]? = (L[g].cells)[j]? := fun j hj => flat_get One.cells 3 One.cells_length L g j hj hg
  have e : (L.set g ⟨L[g].program, L[g].place, st⟩).flatMap One.cells = (L.flatMap One.cells).set (g * 3 + 2) (.int .i64 st) := by
   rw [ones_set L g _ hg]
   have s1 : (L.flatMap One.cells).set (g * 3) (.int .i64 L[g].program) = L.flatMap One.cells := set_same (key 0 (by omega))
   dsimp only
   rw [s1, set_same (key 1 (by omega))]
  rw [e]
  exact h5
def spawnF (L : List One) (p : Int) : (Int × Int) × List One :=
 if p < 0 then ((0, 1), L) else if L.length = 512 then ((0, 5), L) else ((L.length, 0), L ++ [⟨p, 0, 0⟩])
def turnF (L : List One) (g fr to by_ : Int) : Int × List One :=
 if 0 ≤ g then
  match L[g.toNat]? with
  | none => (6, L)
  | some x => if x.state = fr then (0, L.set g.toNat ⟨x.program, x.place + by_, to⟩) else (7, L)
 else (6, L)
def stateF (L : List One) (g : Int) : Int × Bool := if 0 ≤ g then (match L[g.toNat]? with | none => (0, false) | some x => (x.state, true)) else (0, false)
def inF (L : List One) (s : Int) : Nat → List Int
 | 0 => []
 | k + 1 => inF L s k ++ (match L[k]? with | none => [] | some x => if x.state = s then [(k : Int)] else [])
def ableF (L : List One) : List Int := inF L 0 L.length
def overF (L : List One) : Int := if 0 < (ableF L).length then 0 else if 0 < (inF L 1 L.length).length then 2 else 1
theorem inF_length (L : List One) (s : Int) : ∀ k, (inF L s k).length ≤ k
 | 0 => Nat.le_refl _
 | k + 1 => by
  have := inF_length L s k
  rw [inF, List.length_append]
  split
  ·simp; omega
  ·split <;> simp <;> omega
section
variable {w : World} {S : Nat → Prop} {c : Nat} {L : List One}
def Small (L : List One) (N : Int) : Prop := ∀ x ∈ L, 0 ≤ x.place ∧ x.place ≤ N
end
section
variable {w : World} {S : Nat → Prop} {c : Nat} {L : List One}
def Ints (w : World) (xs : List Int) : Ending → World → Prop := fun e w' => ∃ a cap n, e = .returned (.slice a n cap) ∧ Rd w' 1 a n (ints xs) ∧ Frm Nil w w'
end
abbrev RefAt := OnesAt 154 192
def RefPost (S : Nat → Prop) (c : Nat) (w : World) (r : Value) (L' : List One) : Ending → World → Prop :=
 fun e w' => e = .returned r ∧ RefAt w' (New S w w') c L' ∧ Frm S w w'
theorem infoRef : (Tryz.prog.info? 192).map (fun i => (i.zero, i.size, i.bytes)) = some (some (.agg #[.int .i64 0, .int .i64 0, .int .i64 0]), 3, 24) := by kernel_rfl
section
variable {w : World} {S : Nat → Prop} {c : Nat} {L : List One}
set_option maxHeartbeats 400000 in
theorem has_any (h : RefAt w S c L) (g : Int) : Calls Tryz.prog 162 #[.pointer (some ⟨c, 0, none⟩), .int .i64 g] w fun e w' => e = .returned (.bool (stateF L g).2) ∧ Frm Nil w w' := by
 obtain ⟨a, cap, hc, hf, hm, _⟩ := h.cells
 unfold maxLen at hm
 have key : (stateF L g).2 = (decide (0 ≤ g) && decide (g < L.length)) := by
  unfold stateF
  by_cases h0 : 0 ≤ g
  ·rw [if_pos h0]
   by_cases h1 : g < L.length
   ·rw [List.getElem?_eq_getElem (by omega)]
    simp [h0, h1]
   ·rw [List.getElem?_eq_none (by omega)]
    simp [h1]
  ·rw [if_neg h0]
   simp [h0]
 rw [key]
 go_enter Tryz.func162, Tryz.ntmps162
 go_wp2
 all_goals (go_ret; exact ⟨ret_bool (by first | rfl | (simp; omega) | simp), Frm.refl _ _⟩)
set_option maxHeartbeats 400000 in
theorem rspawn_arg (p : Option Addr) (pr : Int) (h0 : pr < 0) (w : World) : Calls Tryz.prog 100 #[.pointer p, .int .i64 pr] w
  fun e w' => e = .returned (.tuple #[.int .i64 0, .int .i64 1]) ∧ w = w' := by
 go_enter Tryz.func100, Tryz.ntmps100
 go_wp2
 go_ret2
 exact ⟨rfl, rfl⟩
set_option maxHeartbeats 400000 in
theorem rspawn_full (h : RefAt w S c L) (hL : L.length = 512) (pr : Int) (h0 : 0 ≤ pr) : Calls Tryz.prog 100 #[.pointer (some ⟨c, 0, none⟩), .int .i64 pr] w
  fun e w' => e = .returned (.tuple #[.int .i64 0, .int .i64 5]) ∧ w = w' := by
 obtain ⟨a, cap, hc, _, _, _⟩ := h.cells
 rw [hL] at hc
 clear hL
 go_enter Tryz.func100, Tryz.ntmps100
 go_wp2
 go_ret2
 exact ⟨rfl, rfl⟩
set_option maxRecDepth 100000 in
set_option maxHeartbeats 400000 in
theorem rspawn_ok (h : RefAt w S c L) (hL : L.length < 512) (pr : Int) (h0 : 0 ≤ pr) : Calls Tryz.prog 100 #[.pointer (some ⟨c, 0, none⟩), .int .i64 pr] w
  (RefPost S c w (.tuple #[.int .i64 L.length, .int .i64 0]) (L ++ [⟨pr, 0, 0⟩])) := by
 obtain ⟨v, h1, h2, h3, h4⟩ := h
 obtain ⟨a, cap, rfl⟩ := own_form h2
 have hc := cell_of_one h1
 have hf := free_of_one h1
 go_enter Tryz.func100, Tryz.ntmps100
 go_wp2_with (at_builtin; go_must (refine app_one rfl _ _ 152 192 _ 3 24 rfl Tryz.underlying152 infoRef rfl (by decide) (.slice a L.length cap) L.length _ [.int .i64 pr, .int .i64 0, .int .i64 0] rfl rfl (by simp) rfl rfl h2 (by omega) (by decide) ?_); intro g' c' w1 hown hfrm hat; have hb1 := hfrm.blk h1 (fun hk => (h4 _ hk).2 rfl); have hc1 := cell_of_one hb1; have hf1 := free_of_one hb1)
 go_ret2
 have hgc : g' ≠ c := by
  rcases hat with hat | hat
  ·exact (h4 _ hat).2
  ·have := lt_of_block h1
   omega
 refine ⟨rfl, ⟨_, one_setCell hb1, ?_, .inl h3, fun k hk => ?_⟩, ?_⟩
 ·rw [List.length_append, List.length_singleton, flat_one]
  exact own_move hown (fun k hk => Below.heap_setCell _ _ _ _ (by rintro rfl; injection hk with hk; exact hgc hk))
 ·injection hk with hk
  dsimp only at hk
  subst hk
  refine ⟨?_, hgc⟩
  rcases hat with hat | hat
  ·exact .inl (h4 _ hat).1
  ·exact .inr ⟨hat, by simpa [World.setCell] using own_lt hown rfl⟩
 ·exact ((hfrm.mono (fun k hk hs => (h4 k hs).1)).setCell (fun _ => h3) _)
set_option maxRecDepth 100000 in
set_option maxHeartbeats 400000 in
theorem rable_any (h : RefAt w S c L) (hL : L.length ≤ 512) : Calls Tryz.prog 132 #[.pointer (some ⟨c, 0, none⟩)] w (Ints w (ableF L)) := by
 obtain ⟨a, cap, hc, hf, hm, hcells⟩ := h.cells
 unfold maxLen at hm
 go_enter Tryz.func132, Tryz.ntmps132
 go_wp2
 go_loopw [3, 11] (fun v i wr => ∃ k : Nat, k ≤ L.length ∧ i = .int .i64 k ∧ Frm Nil w wr ∧ Col w.heap.size wr v (inF L 0 k)) (fun _ i _ => L.length - (intOf i).toNat)
 case atStart => exact ⟨0, Nat.zero_le _, rfl, Frm.refl _ _, Col.nil _ _⟩
 case round =>
  obtain ⟨k, hk, rfl, hfr, hcol⟩ := hrel
  by_cases hlt : k < L.length
  ·obtain ⟨b, rfl, hSb, hbc, hfz, hcells2⟩ := hcells (by omega)
   obtain ⟨hp, hpl, hst⟩ := hcells2 k hlt
   have hbl := World.block_lt_of_cell? w _ hp
   dsimp only at hbl
   rw [← hfr.cell (p := ⟨b, k * 3, none⟩) hbl id] at hp
   rw [← hfr.cell (p := ⟨b, k * 3 + 1, none⟩) hbl id] at hpl
   rw [← hfr.cell (p := ⟨b, k * 3 + 2, none⟩) hbl id] at hst
   have hll := inF_length L 0 k
   have hget : L[k]? = some L[k] := List.getElem?_eq_getElem hlt
   have hcomes : inF L 0 (k + 1) = inF L 0 k ++ (if L[k].state = 0 then [(k : Int)] else []) := by rw [inF, hget]
   obtain ⟨x, hx0⟩ : ∃ x, L[k] = x := ⟨_, rfl⟩
   rw [hx0] at hst hcomes hp hpl
   obtain ⟨pr, plz, st⟩ := x
   dsimp only at hp hpl hst hcomes
   have HC := Lib.hid hcomes
   clear hcomes hcells2 hget hcells hx0
   have hfrA := hfr.alloc (.cells #[.int .i64 pr, .int .i64 plz, .int .i64 st] 192)
   have hcolA := hcol.move (w' := wr.alloc (.cells #[.int .i64 pr, .int .i64 plz, .int .i64 st] 192)) (fun k _ hk => Below.heap_alloc _ _ _ hk)
   by_cases hs : st = 0
   ·have hb0 : (st == 0) = true := by simpa using hs
    have HS := Lib.hid hs
    clear hs
    go_wp2_with (at_builtin; go_must (refine col_app rfl _ _ rfl u3 _ (k : Int) rfl rfl (by simp) hcolA hfrA rfl (by omega) ?_); intro v1 w1 hcol1 hfr1)
    go_roundw
    case rel => exact ⟨k + 1, by omega, by go_num, hfr1, by rw [HC.out, if_pos HS.out]; exact hcol1⟩
    case measure => simp [intOf]; omega
   ·have hb0 : (st == 0) = false := by simpa using hs
    go_wp2
    go_roundw
    case rel => exact ⟨k + 1, by omega, by go_num, hfrA, by rw [HC.out, if_neg hs, List.append_nil]; exact hcolA⟩
    case measure => simp [intOf]; omega
  ·go_wp2
   go_ret
   have hkn : k = L.length := by omega
   subst hkn
   obtain ⟨a3, cap3, rfl, hrd⟩ := hcol.rd
   exact ⟨a3, cap3, _, rfl, hrd, hfr⟩
def overG (L : List One) : Nat → Int
 | 0 => 1
 | k + 1 => match L[k]? with | none => overG L k | some x => if x.state = 1 then 2 else overG L k
theorem inF_nil {L : List One} {s : Int} : ∀ {k : Nat}, k ≤ L.length → (∀ i (h : i < k) (h' : i < L.length), L[i].state ≠ s) → inF L s k = []
 | 0, _, _ => rfl
 | k + 1, hk, h => by
  rw [inF, inF_nil (k := k) (by omega) (fun i hi h' => h i (by omega) h'), List.getElem?_eq_getElem (by omega)]
  simp [h k (by omega) (by omega)]
theorem inF_pos {L : List One} {s : Int} {i : Nat} (hi : i < L.length) (hs : L[i].state = s) : ∀ {k : Nat}, i < k → k ≤ L.length → 0 < (inF L s k).length
 | 0, h, _ => absurd h (Nat.not_lt_zero _)
 | k + 1, h, hk => by
  rw [inF, List.length_append]
  by_cases hik : i = k
  ·subst hik
   rw [List.getElem?_eq_getElem hi]
   simp [hs]
  ·have := inF_pos hi hs (k := k) (by omega) (by omega)
   omega
theorem overG_cases (L : List One) : ∀ k, k ≤ L.length → (overG L k = 2 ∧ 0 < (inF L 1 k).length) ∨ (overG L k = 1 ∧ (inF L 1 k).length = 0)
 | 0, _ => .inr ⟨rfl, rfl⟩
 | k + 1, hk => by
  rw [overG, inF, List.length_append, List.getElem?_eq_getElem (show k < L.length by omega)]
  dsimp only
  by_cases h : L[k].state = 1
  ·rw [if_pos h, if_pos h]
   exact .inl ⟨rfl, by simp⟩
  ·rw [if_neg h, if_neg h]
   simpa using overG_cases L k (by omega)
set_option maxRecDepth 100000 in
set_option maxHeartbeats 400000 in
theorem rover_any (h : RefAt w S c L) : Calls Tryz.prog 110 #[.pointer (some ⟨c, 0, none⟩)] w fun e w' => e = .returned (.int .i64 (overF L)) ∧ Frm Nil w w' := by
 obtain ⟨a, cap, hc, hf, hm, hcells⟩ := h.cells
 unfold maxLen at hm
 go_enter Tryz.func110, Tryz.ntmps110
 go_wp2
 go_loopw [3, 11] (fun v i wr => ∃ k : Nat, k ≤ L.length ∧ i = .int .i64 k ∧ Frm Nil w wr ∧ v = .int .i64 (overG L k) ∧ Hid (∀ i (_ : i < k) (h' : i < L.length), L[i].state ≠ 0)) (fun _ i _ => L.length - (intOf i).toNat)
 case atStart => exact ⟨0, Nat.zero_le _, rfl, Frm.refl _ _, rfl, fun i h => absurd h (Nat.not_lt_zero _)⟩
 case round =>
  obtain ⟨k, hk, rfl, hfr, rfl, hno⟩ := hrel
  by_cases hlt : k < L.length
  ·obtain ⟨b, rfl, hSb, hbc, hfz, hcells2⟩ := hcells (by omega)
   obtain ⟨hp, hpl, hst⟩ := hcells2 k hlt
   have hbl := World.block_lt_of_cell? w _ hp
   dsimp only at hbl
   rw [← hfr.cell (p := ⟨b, k * 3, none⟩) hbl id] at hp
   rw [← hfr.cell (p := ⟨b, k * 3 + 1, none⟩) hbl id] at hpl
   rw [← hfr.cell (p := ⟨b, k * 3 + 2, none⟩) hbl id] at hst
   have hcomes : overG L (k + 1) = if L[k].state = 1 then 2 else overG L k := by rw [overG, List.getElem?_eq_getElem hlt]
   have hno' : L[k].state ≠ 0 → ∀ i (_ : i < k + 1) (h' : i < L.length), L[i].state ≠ 0 := fun hne i hi h' => by
    by_cases hik : i = k
    ·subst hik; exact hne
    ·exact hno.out i (by omega) h'
   have hyes : L[k].state = 0 → overF L = 0 := fun h0 => by
    unfold overF ableF
    rw [if_pos (inF_pos hlt h0 hlt (Nat.le_refl _))]
   have HN := Lib.hid hno'
   have HY := Lib.hid hyes
   obtain ⟨x, hx0⟩ : ∃ x, L[k] = x := ⟨_, rfl⟩
   rw [hx0] at hst hcomes hp hpl HN HY
   obtain ⟨pr, plz, st⟩ := x
   dsimp only at hp hpl hst hcomes HN HY
   have HC := Lib.hid hcomes
   obtain ⟨o, ho⟩ : ∃ o, overG L k = o := ⟨_, rfl⟩
   rw [ho] at HC ⊢
   clear hcomes hcells2 hcells hx0 hno' hyes ho
   have hfrA := hfr.alloc (.cells #[.int .i64 pr, .int .i64 plz, .int .i64 st] 192)
   by_cases hs : st = 0
   ·have hb0 : (st == 0) = true := by simpa using hs
    have HS := Lib.hid hs
    clear hs
    go_wp2
    go_ret
    exact ⟨ret_int (HY.out HS.out).symm, hfrA⟩
   ·have hb0 : (st == 0) = false := by simpa using hs
    by_cases h1 : st = 1
    ·have hb1 : (st == 1) = true := by simpa using h1
     have H1 := Lib.hid h1
     have HS := Lib.hid hs
     clear h1 hs
     go_wp2
     go_roundw
     case rel => exact ⟨k + 1, by omega, by go_num, hfrA, by rw [HC.out, if_pos H1.out], HN.out HS.out⟩
     case measure => simp [intOf]; omega
    ·have hb1 : (st == 1) = false := by simpa using h1
     go_wp2
     go_roundw
     case rel => exact ⟨k + 1, by omega, by go_num, hfrA, by rw [HC.out, if_neg h1], HN.out hs⟩
     case measure => simp [intOf]; omega
  ·go_wp2
   go_ret
   have hkn : k = L.length := by omega
   subst hkn
   refine ⟨ret_int ?_, hfr⟩
   unfold overF ableF
   rw [inF_nil (Nat.le_refl _) (fun i hi h' => hno.out i hi h')]
   rcases overG_cases L L.length (Nat.le_refl _) with ⟨h1, h2⟩ | ⟨h1, h2⟩
   ·rw [h1, if_neg (by simp), if_pos h2]
   ·rw [h1, if_neg (by simp), if_neg (by omega)]
set_option maxHeartbeats 400000 in
theorem rturn_none (h : RefAt w S c L) (g fr to : Int) (hs : (stateF L g).2 = false) : Calls Tryz.prog 138 #[.pointer (some ⟨c, 0, none⟩), .int .i64 g, .int .i64 fr, .int .i64 to] w fun e w' => e = .returned (.int .i64 6) ∧ Frm Nil w w' := by
 have hh := has_any h g
 rw [hs] at hh
 have H := Lib.hid hh
 clear hh hs
 go_enter Tryz.func138, Tryz.ntmps138
 go_wp2_with fail
 refine H.out.mono ?_
 rintro e w1 ⟨rfl, f1⟩
 go_wp2_with fail
 go_ret
 exact ⟨rfl, f1⟩
set_option maxHeartbeats 400000 in
theorem rturn_state (h : RefAt w S c L) (fr to : Int) (k : Nat) (hk : k < L.length) (hs : L[k].state ≠ fr) : Calls Tryz.prog 138 #[.pointer (some ⟨c, 0, none⟩), .int .i64 k, .int .i64 fr, .int .i64 to] w fun e w' => e = .returned (.int .i64 7) ∧ Frm Nil w w' := by
 have hh := has_any h k
 rw [show (stateF L k).2 = true by unfold stateF; rw [if_pos (by omega), Int.toNat_natCast, List.getElem?_eq_getElem hk]] at hh
 have H := Lib.hid hh
 clear hh
 go_enter Tryz.func138, Tryz.ntmps138
 go_wp2_with fail
 refine H.out.mono ?_
 rintro e w1 ⟨rfl, f1⟩
 have h1 : RefAt w1 S c L := h.bound.move' f1
 obtain ⟨a, cap, hc, hf, hm, hcells⟩ := h1.cells
 obtain ⟨b, rfl, hSb, hbc, hfz, hcells⟩ := hcells (by omega)
 obtain ⟨_, _, h3⟩ := hcells k hk
 unfold maxLen at hm
 obtain ⟨st, hst⟩ : ∃ st, L[k].state = st := ⟨_, rfl⟩
 rw [hst] at h3 hs
 have hb : (st != fr) = true := by simpa using hs
 clear hcells hst hs
 go_wp2_with fail
 go_ret
 exact ⟨rfl, f1⟩
def byOf (fr to : Int) : Int := if fr = 1 ∨ (fr = 0 ∧ to = 0) then 1 else 0
set_option maxHeartbeats 400000 in
theorem rturn_ok (h : RefAt w S c L) (fr to : Int) (k : Nat) (hk : k < L.length) (hs : L[k].state = fr) (h0 : 0 ≤ L[k].place) (hp : L[k].place ≤ 100000000) (hfr : (fr = 0 ∧ to = 0) ∨ (fr = 0 ∧ to = 1) ∨ (fr = 1 ∧ to = 0) ∨ (fr = 0 ∧ to = 2)) :
  Calls Tryz.prog 138 #[.pointer (some ⟨c, 0, none⟩), .int .i64 k, .int .i64 fr, .int .i64 to] w (RefPost S c w (.int .i64 0) (L.set k ⟨L[k].program, L[k].place + byOf fr to, to⟩)) := by
 have hh := has_any h k
 rw [show (stateF L k).2 = true by unfold stateF; rw [if_pos (by omega), Int.toNat_natCast, List.getElem?_eq_getElem hk]] at hh
 have H := Lib.hid hh
 clear hh
 rcases hfr with ⟨rfl, rfl⟩ | ⟨rfl, rfl⟩ | ⟨rfl, rfl⟩ | ⟨rfl, rfl⟩
 ·rw [show byOf 0 0 = 1 from rfl]
  go_enter Tryz.func138, Tryz.ntmps138
  go_wp2_with fail
  refine H.out.mono ?_
  rintro e w1 ⟨rfl, f1⟩
  have h1 : RefAt w1 S c L := h.bound.move' f1
  obtain ⟨a, cap, hc, hf, hm, hcells⟩ := h1.cells
  obtain ⟨b, rfl, hSb, hbc, hfz, hcells⟩ := hcells (by omega)
  obtain ⟨_, h2, h3⟩ := hcells k hk
  unfold maxLen at hm
  rw [hs] at h3
  have HH := Lib.hid (OnesAt.stored h1 hc k hk (L[k].place + 1) 0)
  clear hs hcells
  go_wp2_with fail
  go_region
  go_wp2_with fail
  go_ret
  have h9 := HH.out
  exact ⟨rfl, OnesAt.mono (w := _) (h9.move (fun _ _ => rfl)) (fun _ hk => Or.inl hk), ((f1.nil.setCell (fun _ => hSb) _).setCell (fun _ => hSb) _).drew⟩
 ·rw [show byOf 0 1 = 0 from rfl]
  go_enter Tryz.func138, Tryz.ntmps138
  go_wp2_with fail
  refine H.out.mono ?_
  rintro e w1 ⟨rfl, f1⟩
  have h1 : RefAt w1 S c L := h.bound.move' f1
  obtain ⟨a, cap, hc, hf, hm, hcells⟩ := h1.cells
  obtain ⟨b, rfl, hSb, hbc, hfz, hcells⟩ := hcells (by omega)
  obtain ⟨_, h2, h3⟩ := hcells k hk
  unfold maxLen at hm
  rw [hs] at h3
  have HH := Lib.hid (OnesAt.stored1 h1 hc k hk 1)
  clear hs hcells
  go_wp2_with fail
  go_ret
  have h9 := HH.out
  exact ⟨rfl, by rw [Int.add_zero]; exact h9.mono (fun _ hk => Or.inl hk), f1.nil.setCell (fun _ => hSb) _⟩
 ·rw [show byOf 1 0 = 1 from rfl]
  go_enter Tryz.func138, Tryz.ntmps138
  go_wp2_with fail
  refine H.out.mono ?_
  rintro e w1 ⟨rfl, f1⟩
  have h1 : RefAt w1 S c L := h.bound.move' f1
  obtain ⟨a, cap, hc, hf, hm, hcells⟩ := h1.cells
  obtain ⟨b, rfl, hSb, hbc, hfz, hcells⟩ := hcells (by omega)
  obtain ⟨_, h2, h3⟩ := hcells k hk
  unfold maxLen at hm
  rw [hs] at h3
  have HH := Lib.hid (OnesAt.stored h1 hc k hk (L[k].place + 1) 0)
  clear hs hcells
  go_wp2_with fail
  go_region
  go_wp2_with fail
  go_ret
  have h9 := HH.out
  exact ⟨rfl, OnesAt.mono (w := _) (h9.move (fun _ _ => rfl)) (fun _ hk => Or.inl hk), ((f1.nil.setCell (fun _ => hSb) _).setCell (fun _ => hSb) _).drew⟩
 ·rw [show byOf 0 2 = 0 from rfl]
  go_enter Tryz.func138, Tryz.ntmps138
  go_wp2_with fail
  refine H.out.mono ?_
  rintro e w1 ⟨rfl, f1⟩
  have h1 : RefAt w1 S c L := h.bound.move' f1
  obtain ⟨a, cap, hc, hf, hm, hcells⟩ := h1.cells
  obtain ⟨b, rfl, hSb, hbc, hfz, hcells⟩ := hcells (by omega)
  obtain ⟨_, h2, h3⟩ := hcells k hk
  unfold maxLen at hm
  rw [hs] at h3
  have HH := Lib.hid (OnesAt.stored1 h1 hc k hk 2)
  clear hs hcells
  go_wp2_with fail
  go_ret
  have h9 := HH.out
  exact ⟨rfl, by rw [Int.add_zero]; exact h9.mono (fun _ hk => Or.inl hk), f1.nil.setCell (fun _ => hSb) _⟩
theorem stateF_none {g : Int} (hg : ¬ (0 ≤ g ∧ g < L.length)) : stateF L g = (0, false) := by
 unfold stateF
 split
 ·rw [List.getElem?_eq_none (by omega)]
 ·rfl
theorem rturn_any (h : RefAt w S c L) (hp : Small L 100000000) (g fr to : Int) (hft : (fr = 0 ∧ to = 0) ∨ (fr = 0 ∧ to = 1) ∨ (fr = 1 ∧ to = 0) ∨ (fr = 0 ∧ to = 2)) :
  Calls Tryz.prog 138 #[.pointer (some ⟨c, 0, none⟩), .int .i64 g, .int .i64 fr, .int .i64 to] w (RefPost S c w (.int .i64 (turnF L g fr to (byOf fr to)).1) (turnF L g fr to (byOf fr to)).2) := by
 have stay : ∀ {w' : World} (r : Value), Frm Nil w w' → Ending.returned r = Ending.returned r ∧ RefAt w' (New S w w') c L ∧ Frm S w w' := fun r hf => ⟨rfl, (h.bound.move' hf).mono (fun k hk => .inl hk), hf.nil⟩
 by_cases hg : 0 ≤ g ∧ g < L.length
 ·obtain ⟨k, rfl⟩ := Int.eq_ofNat_of_zero_le hg.1
  have hk : k < L.length := by omega
  have hget : L[((k : Nat) : Int).toNat]? = some L[k] := by rw [Int.toNat_natCast]; exact List.getElem?_eq_getElem hk
  have hpl := hp L[k] (List.getElem_mem hk)
  by_cases hst : L[k].state = fr
  ·have e : turnF L k fr to (byOf fr to) = (0, L.set k ⟨L[k].program, L[k].place + byOf fr to, to⟩) := by
    unfold turnF
    rw [if_pos (by omega), hget]
    simp only [hst, if_true, Int.toNat_natCast]
   rw [e]
   exact rturn_ok h fr to k hk hst hpl.1 hpl.2 hft
  ·have e : turnF L k fr to (byOf fr to) = (7, L) := by
    unfold turnF
    rw [if_pos (by omega), hget]
    simp only [hst, if_false]
   rw [e]
   refine (rturn_state h fr to k hk hst).mono ?_
   rintro e w' ⟨rfl, hf⟩
   exact stay _ hf
 ·have e : turnF L g fr to (byOf fr to) = (6, L) := by
   unfold turnF
   split
   ·rw [List.getElem?_eq_none (by omega)]
   ·rfl
  rw [e]
  refine (rturn_none h g fr to (by rw [stateF_none hg])).mono ?_
  rintro e w' ⟨rfl, hf⟩
  exact stay _ hf
theorem rspawn_any (h : RefAt w S c L) (hL : L.length ≤ 512) (pr : Int) : Calls Tryz.prog 100 #[.pointer (some ⟨c, 0, none⟩), .int .i64 pr] w
  (RefPost S c w (.tuple #[.int .i64 (spawnF L pr).1.1, .int .i64 (spawnF L pr).1.2]) (spawnF L pr).2) := by
 unfold spawnF
 by_cases h0 : pr < 0
 ·rw [if_pos h0]
  refine (rspawn_arg _ pr h0 w).mono ?_
  rintro e w' ⟨rfl, rfl⟩
  exact ⟨rfl, h.mono (fun k hk => .inl hk), Frm.refl _ _⟩
 ·rw [if_neg h0]
  by_cases h1 : L.length = 512
  ·rw [if_pos h1]
   refine (rspawn_full h h1 pr (by omega)).mono ?_
   rintro e w' ⟨rfl, rfl⟩
   exact ⟨rfl, h.mono (fun k hk => .inl hk), Frm.refl _ _⟩
  ·rw [if_neg h1]
   exact rspawn_ok h (by omega) pr (by omega)
end
end Go.Proofs.YtoamjodmidbmbaaGreatDoor
namespace Go.Proofs.YtoamjodmidbmbaaGreatDoor
structure OpM where
 kind : Int
 a : Int
 b : Int
 cases : List CaseM
 dflt : Bool
structure ScrM where
 t : Int
 m : Int
 progs : List (List OpM)
 plan : List Int
 draws : List Int
structure LmM where
 p : Nat
 d : Nat
 crew : List One
 M : List PipeM
 name : List Int
 tr : List Ev
 pan : Bool
def bareE (k g : Int) : Ev := ⟨k, g, -1, -1, -1, -1, false, false⟩
def noteL (x : LmM) (e : Ev) : LmM := { x with tr := x.tr ++ [e] }
def turnL (x : LmM) (g fr to : Int) : LmM := { x with crew := (turnF x.crew g fr to (byOf fr to)).2 }
def wakeL (x : LmM) (e : Ev) : LmM := turnL { noteL x e with M := x.M.map (fun y => dropM y e.g) } e.g 1 0
def panicL (x : LmM) (g : Int) : LmM := { noteL x (bareE 12 g) with pan := true }
def verL (s : ScrM) (x : LmM) : Int :=
 if x.pan = true then 3 else if overF x.crew ≠ 0 then overF x.crew else if s.plan.length ≤ x.p then 4 else 0
def whoL (s : ScrM) (x : LmM) : Int :=
 if s.plan.getD x.p 0 = -1 then -1 else (ableF x.crew).getD ((s.plan.getD x.p 0).toNat % (ableF x.crew).length) 0
def exitOp : OpM := ⟨9, 0, 0, [], false⟩
def opL (s : ScrM) (x : LmM) (g : Int) : OpM :=
 match x.crew[g.toNat]? with
 | none => exitOp
 | some o =>
  match s.progs[o.program.toNat]? with
  | none => exitOp
  | some p => if (p.length : Int) ≤ o.place then exitOp else p.getD o.place.toNat exitOp
def numL (x : LmM) (c : Int) : Int := x.name.getD c.toNat (-1)
def okN (x : LmM) : List Bool := x.name.map (fun n => decide (0 ≤ n))
def pipesN (x : LmM) : List PipeM := x.name.map (fun n => if 0 ≤ n then x.M.getD n.toNat (emptyM 0) else emptyM 0)
def backN : List Int → List PipeM → List PipeM → List PipeM
 | n :: ns, y :: ys, M => backN ns ys (if 0 ≤ n then M.set n.toNat y else M)
 | _, _, M => M
def talkL (x : LmM) (g : Int) (c : CaseM) (at_ : Int) : LmM :=
 let r := tryF (okN x) (pipesN x) c
 let got := r.1.1
 let x1 := { x with M := backN x.name r.2 x.M }
 if r.1.2 ≠ 0 then panicL x1 g
 else
  let ch := numL x c.chan
  let e : Ev := if c.send = true then ⟨3, g, ch, at_, c.value, if got.woke = true then got.mate.g else -1, true, false⟩ else ⟨4, g, ch, at_, got.value, if got.woke = true then got.mate.g else -1, false, got.ok⟩
  let x2 := turnL (noteL x1 e) g 0 0
  if got.woke = true then wakeL x2 ⟨7, got.mate.g, ch, got.mate.case_, if c.send = true then c.value else got.mate.value, g, !c.send, true⟩ else x2
def aloneL (x : LmM) (g : Int) (c : CaseM) : LmM :=
 if readyC (okN x) (pipesN x) c = true then talkL x g c (-1)
 else
  let n := numL x c.chan
  let x1 := noteL x ⟨6, g, n, -1, c.value, -1, c.send, false⟩
  let x2 := if 0 ≤ n then { x1 with M := x1.M.set n.toNat (waitF (x1.M.getD n.toNat (emptyM 0)) c.send ⟨g, -1, c.value⟩).2 } else x1
  turnL x2 g 0 1
def wakesL (x : LmM) (g ch : Int) : List Wtr → LmM
 | [] => x
 | w :: ws => wakesL (if (stateF x.crew w.g).1 = 1 then wakeL x ⟨7, w.g, ch, w.case_, 0, g, false, false⟩ else x) g ch ws
def sendersL (x : LmM) : List Wtr → LmM
 | [] => x
 | w :: ws => if (stateF x.crew w.g).1 = 1 then panicL x w.g else sendersL x ws
def shutL (x : LmM) (g c : Int) : LmM :=
 let n := numL x c
 if n < 0 then panicL x g
 else
  let y := x.M.getD n.toNat (emptyM 0)
  if y.closed = true then panicL x g
  else
   let x1 := { x with M := x.M.set n.toNat (closeF y).2 }
   let x2 := turnL (noteL x1 ⟨5, g, n, -1, -1, -1, false, false⟩) g 0 0
   sendersL (wakesL x2 g n (closeF y).1.1) (closeF y).1.2.1
def drawL (s : ScrM) (x : LmM) (n : Nat) : Nat × LmM :=
 if n = 1 ∨ s.draws.length ≤ x.d then (0, x) else ((s.draws.getD x.d 0).toNat % n, { x with d := x.d + 1 })
def chooseL (s : ScrM) (x : LmM) (g : Int) (o : OpM) : LmM :=
 let rd := readyL (okN x) (pipesN x) o.cases
 if 0 < rd.length then
  let dr := drawL s x rd.length
  let at_ := rd.getD dr.1 0
  talkL dr.2 g (o.cases.getD at_.toNat ⟨false, 0, 0⟩) at_
 else if o.dflt = true then turnL (noteL x (bareE 8 g)) g 0 0
 else
  let x1 := noteL x ⟨6, g, -1, (o.cases.length : Int), 0, -1, false, false⟩
  turnL { x1 with M := backN x.name (parkF (okN x) g o.cases (pipesN x)).2 x.M } g 0 1
def otherL (x : LmM) (g : Int) (o : OpM) : LmM :=
 if o.kind = 1 then turnL (noteL { x with crew := (spawnF x.crew o.a).2 } ⟨1, g, -1, -1, o.a, (spawnF x.crew o.a).1.1, false, false⟩) g 0 0
 else if o.kind = 2 then turnL (noteL { x with M := x.M ++ [emptyM o.b.toNat], name := x.name.set o.a.toNat x.M.length } ⟨2, g, x.M.length, -1, o.b, -1, false, false⟩) g 0 0
 else if o.kind = 7 then turnL (noteL x ⟨9, g, -1, -1, o.a, -1, false, false⟩) g 0 0
 else if o.kind = 8 then turnL (noteL x ⟨10, g, -1, -1, o.a, -1, false, false⟩) g 0 0
 else noteL (turnL x g 0 2) (bareE 11 g)
def doesL (s : ScrM) (x : LmM) (g : Int) (o : OpM) : LmM :=
 if o.kind = 3 then aloneL x g ⟨true, o.a, o.b⟩
 else if o.kind = 4 then aloneL x g ⟨false, o.a, 0⟩
 else if o.kind = 5 then shutL x g o.a
 else if o.kind = 6 then chooseL s x g o
 else otherL x g o
def stepL (s : ScrM) (x : LmM) : LmM :=
 if verL s x ≠ 0 then x
 else if whoL s x < 0 then noteL { x with p := x.p + 1 } (bareE 13 (-1))
 else doesL s { x with p := x.p + 1 } (whoL s x) (opL s x (whoL s x))
def newL : LmM := ⟨0, 0, [⟨0, 0, 0⟩], [], List.replicate 8 (-1), [], false⟩
def runL (s : ScrM) : Nat → LmM
 | 0 => newL
 | n + 1 => stepL s (runL s n)
end Go.Proofs.YtoamjodmidbmbaaGreatDoor
namespace Go.Proofs.YtoamjodmidbmbaaGreatDoor
open Go.RowKit
def pickN (name : List Int) (L : List Piece) : List Piece := name.map (fun n => if 0 ≤ n then nth L n.toNat else emp)
def leftN : List Int → List Piece → List Piece
 | [], L => L
 | n :: ns, L => leftN ns (if 0 ≤ n then L.set n.toNat emp else L)
def putN {α : Type} : List Int → List α → List α → List α
 | n :: ns, y :: ys, L => putN ns ys (if 0 ≤ n then L.set n.toNat y else L)
 | _, _, L => L
theorem putN_back : ∀ (name : List Int) (ys M : List PipeM), putN name ys M = backN name ys M
 | [], _, _ => by unfold putN backN; rfl
 | n :: ns, [], M => by unfold putN backN; rfl
 | n :: ns, y :: ys, M => by
  unfold putN backN
  exact putN_back ns ys _
structure NamesOk (name : List Int) (k : Nat) : Prop where
 lt : ∀ n ∈ name, n < (k : Int)
 ne : name.Pairwise (fun a b => 0 ≤ a → a ≠ b)
theorem NamesOk.tail {n : Int} {ns : List Int} {k : Nat} (h : NamesOk (n :: ns) k) : NamesOk ns k := ⟨fun m hm => h.lt m (List.mem_cons_of_mem _ hm), (List.pairwise_cons.1 h.ne).2⟩
theorem NamesOk.head {n : Int} {ns : List Int} {k : Nat} (h : NamesOk (n :: ns) k) (h0 : 0 ≤ n) : ∀ m ∈ ns, n ≠ m := fun m hm => (List.pairwise_cons.1 h.ne).1 m hm h0
theorem nth_get : ∀ (L : List Piece) (i : Nat), i < L.length → L[i]? = some (nth L i)
 | A :: L, 0, _ => rfl
 | A :: L, i + 1, h => nth_get L i (by simpa using h)
theorem nth_set_ne : ∀ (L : List Piece) (i j : Nat) (A : Piece), i ≠ j → nth (L.set i A) j = nth L j
 | [], _, _, _, _ => rfl
 | B :: L, 0, 0, _, h => absurd rfl h
 | B :: L, 0, j + 1, _, _ => rfl
 | B :: L, i + 1, 0, _, _ => rfl
 | B :: L, i + 1, j + 1, A, h => nth_set_ne L i j A (by omega)
theorem pick_set {n : Int} {ns : List Int} {L : List Piece} (h0 : 0 ≤ n) (hn : ∀ m ∈ ns, n ≠ m) (A : Piece) : pickN ns (L.set n.toNat A) = pickN ns L := by
 unfold pickN
 refine List.map_congr_left (fun m hm => ?_)
 split
 ·exact nth_set_ne _ _ _ _ (by have := hn m hm; omega)
 ·rfl
theorem emps_in {w : World} {S : Nat → Prop} {L : List Piece} (h : SLs w S L) : SLs w S (emp :: L) := ⟨fun _ => False, fun _ h => h.elim, trivial, h.mono (fun k hk => ⟨hk, id⟩)⟩
theorem names_out {w : World} : ∀ (name : List Int) (L : List Piece) (S : Nat → Prop), NamesOk name L.length → SLs w S L → SLs w S (pickN name L ++ leftN name L)
 | [], L, S, _, h => h
 | n :: ns, L, S, hk, h => by
  by_cases h0 : 0 ≤ n
  ·have h1 : n.toNat < L.length := by have := hk.lt n List.mem_cons_self; omega
   have h2 := SLs.take n.toNat h (nth_get L n.toNat h1)
   have e : pickN (n :: ns) L ++ leftN (n :: ns) L = nth L n.toNat :: (pickN ns (L.set n.toNat emp) ++ leftN ns (L.set n.toNat emp)) := by
    rw [pick_set h0 (hk.head h0)]
    simp [pickN, leftN, h0]
   rw [e]
   exact SLs.congr (fun T hT => names_out ns _ T (by rw [List.length_set]; exact hk.tail) hT) h2
  ·have e : pickN (n :: ns) L ++ leftN (n :: ns) L = emp :: (pickN ns L ++ leftN ns L) := by simp [pickN, leftN, h0]
   rw [e]
   exact emps_in (names_out ns L S hk.tail h)
theorem putN_len {α : Type} : ∀ (name : List Int) (ys L : List α), (putN name ys L).length = L.length
 | [], _, _ => by unfold putN; rfl
 | n :: ns, [], L => by unfold putN; rfl
 | n :: ns, y :: ys, L => by
  unfold putN
  rw [putN_len ns ys]
  split
  ·rw [List.length_set]
  ·rfl
theorem putN_set {α : Type} : ∀ (ns : List Int) (ys L : List α) (i : Nat) (a : α), (∀ m ∈ ns, 0 ≤ m → m.toNat ≠ i) → putN ns ys (L.set i a) = (putN ns ys L).set i a
 | [], _, _, _, _, _ => by simp [putN]
 | n :: ns, [], L, _, _, _ => by simp [putN]
 | n :: ns, y :: ys, L, i, a, h => by
  unfold putN
  have ih := fun L' => putN_set ns ys L' i a (fun m hm => h m (List.mem_cons_of_mem _ hm))
  split
  ·rename_i h0
   rw [List.set_comm _ _ (fun e => h n List.mem_cons_self h0 e.symm), ih]
  ·exact ih L
theorem names_back {w : World} : ∀ (name : List Int) (Ys L : List Piece) (S : Nat → Prop), NamesOk name L.length → Ys.length = name.length → SLs w S (Ys ++ leftN name L) → SLs w S (putN name Ys L)
 | [], Ys, L, S, _, hl, h => by
  have : Ys = [] := List.eq_nil_of_length_eq_zero hl
  subst this
  unfold putN
  exact h
 | n :: ns, [], L, S, _, hl, h => by simp at hl
 | n :: ns, Y :: Ys, L, S, hk, hl, h => by
  unfold putN
  unfold leftN at h
  by_cases h0 : 0 ≤ n
  ·rw [if_pos h0] at h ⊢
   have h1 : n.toNat < L.length := by have := hk.lt n List.mem_cons_self; omega
   have h2 : SLs w S (Y :: putN ns Ys (L.set n.toNat emp)) := SLs.congr (fun T hT => names_back ns Ys _ T (by rw [List.length_set]; exact hk.tail) (by simpa using hl) hT) h
   have hne : ∀ m ∈ ns, 0 ≤ m → m.toNat ≠ n.toNat := fun m hm hm0 => by have := hk.head h0 m hm; omega
   rw [putN_set ns Ys L n.toNat emp hne] at h2
   have h3 := SLs.put (L := putN ns Ys L) n.toNat (by rw [putN_len]; exact h1) h2
   rw [← putN_set ns Ys L n.toNat Y hne] at h3
   exact h3
  ·rw [if_neg h0] at h ⊢
   exact names_back ns Ys L S hk.tail (by simpa using hl) (SLs.tl h)
def gsN (name : List Int) (ps : List Nat) : List (Option Nat) := name.map (fun n => if 0 ≤ n then ps[n.toNat]? else none)
def msN (name : List Int) (M : List PipeM) : List PipeM := name.map (fun n => if 0 ≤ n then M.getD n.toNat (emptyM 0) else emptyM 0)
theorem gsN_len (name : List Int) (ps : List Nat) : (gsN name ps).length = name.length := by simp [gsN]
theorem msN_len (name : List Int) (M : List PipeM) : (msN name M).length = name.length := by simp [msN]
theorem okN_gs {name : List Int} {ps : List Nat} (hk : NamesOk name ps.length) : oks (gsN name ps) = name.map (fun n => decide (0 ≤ n)) := by
 unfold oks gsN
 rw [List.map_map]
 refine List.map_congr_left (fun n hn => ?_)
 have := hk.lt n hn
 show (if 0 ≤ n then ps[n.toNat]? else none).isSome = _
 by_cases h0 : 0 ≤ n
 ·rw [if_pos h0, List.getElem?_eq_getElem (by omega), decide_eq_true h0]
  rfl
 ·rw [if_neg h0, decide_eq_false h0]
  rfl
theorem nth_zip {P : Nat → PipeM → Piece} : ∀ (ps : List Nat) (M : List PipeM) (i : Nat) (hi : i < ps.length) (hm : M.length = ps.length), nth (List.zipWith (pieceO P) (ps.map some) M) i = P (ps[i]) (M.getD i (emptyM 0))
 | p :: ps, x :: M, 0, _, _ => rfl
 | p :: ps, x :: M, i + 1, hi, hm => nth_zip ps M i (by simpa using hi) (by simpa using hm)
 | p :: ps, [], _, _, hm => by simp at hm
 | [], _, _, hi, _ => by simp at hi
theorem pick_zip {P : Nat → PipeM → Piece} {name : List Int} {ps : List Nat} {M : List PipeM} (hm : M.length = ps.length) (hk : NamesOk name ps.length) : pickN name (List.zipWith (pieceO P) (ps.map some) M) = List.zipWith (pieceO P) (gsN name ps) (msN name M) := by
 unfold pickN gsN msN
 rw [List.zipWith_map, List.zipWith_self]
 refine List.map_congr_left (fun n hn => ?_)
 have := hk.lt n hn
 by_cases h0 : 0 ≤ n
 ·rw [if_pos h0, if_pos h0, if_pos h0, nth_zip ps M _ (by omega) hm, List.getElem?_eq_getElem (by omega)]
  rfl
 ·rw [if_neg h0, if_neg h0]
  rfl
theorem put_zip {P : Nat → PipeM → Piece} : ∀ (name : List Int) (ps : List Nat) (M ys : List PipeM), M.length = ps.length → NamesOk name ps.length → ys.length = name.length →
  putN name (List.zipWith (pieceO P) (gsN name ps) ys) (List.zipWith (pieceO P) (ps.map some) M) = List.zipWith (pieceO P) (ps.map some) (backN name ys M)
 | [], ps, M, ys, _, _, _ => by unfold putN backN; rfl
 | n :: ns, ps, M, [], _, _, hl => by simp at hl
 | n :: ns, ps, M, y :: ys, hm, hk, hl => by
  have hlt := hk.lt n List.mem_cons_self
  have ih := fun M' (h : M'.length = ps.length) => put_zip (P := P) ns ps M' ys h hk.tail (by simpa using hl)
  show putN ns (List.zipWith (pieceO P) (gsN ns ps) ys) (if 0 ≤ n then (List.zipWith (pieceO P) (ps.map some) M).set n.toNat (pieceO P (if 0 ≤ n then ps[n.toNat]? else none) y) else _) = List.zipWith (pieceO P) (ps.map some) (backN ns ys (if 0 ≤ n then M.set n.toNat y else M))
  by_cases h0 : 0 ≤ n
  ·rw [if_pos h0, if_pos h0, if_pos h0, List.getElem?_eq_getElem (by omega)]
   have e := zip_set (P := P) (gs := ps.map some) (M := M) (i := n.toNat) (g := ps[n.toNat]'(by omega)) (by rw [List.getElem?_map, List.getElem?_eq_getElem (by omega)]; rfl) y
   show putN ns _ ((List.zipWith (pieceO P) (ps.map some) M).set n.toNat (P _ y)) = _
   rw [e]
   exact ih _ (by rw [List.length_set]; exact hm)
  ·rw [if_neg h0, if_neg h0]
   exact ih M hm
theorem pipes_out {w : World} {P : Nat → PipeM → Piece} {F : List Piece} {name : List Int} {ps : List Nat} {M : List PipeM} (hm : M.length = ps.length) (hk : NamesOk name ps.length) (H : SL w (all (List.zipWith (pieceO P) (ps.map some) M) :: F)) :
  SL w (all (List.zipWith (pieceO P) (gsN name ps) (msN name M)) :: all (leftN name (List.zipWith (pieceO P) (ps.map some) M)) :: F) := by
 have hl : (List.zipWith (pieceO P) (ps.map some) M).length = ps.length := by simp [hm]
 obtain ⟨T, h1, h2, h3⟩ := H
 have h4 := names_out name _ T (by rw [hl]; exact hk) (h2 : SLs w T _)
 rw [pick_zip hm hk] at h4
 obtain ⟨U, u1, u2, u3⟩ := SLs.app.1 h4
 exact ⟨U, fun k hk => h1 k (u1 k hk), u2, fun k => T k ∧ ¬ U k, fun k hk => ⟨h1 k hk.1, hk.2⟩, u3, h3.mono (fun k hk => ⟨⟨hk.1, fun hu => hk.2 (u1 k hu)⟩, fun ht => hk.2 ht.1⟩)⟩
theorem pipes_back {w : World} {P : Nat → PipeM → Piece} {F : List Piece} {name : List Int} {ps : List Nat} {M ys : List PipeM} (hm : M.length = ps.length) (hk : NamesOk name ps.length) (hy : ys.length = name.length)
  (H : SL w (all (List.zipWith (pieceO P) (gsN name ps) ys) :: all (leftN name (List.zipWith (pieceO P) (ps.map some) M)) :: F)) :
  SL w (all (List.zipWith (pieceO P) (ps.map some) (backN name ys M)) :: F) := by
 have hl : (List.zipWith (pieceO P) (ps.map some) M).length = ps.length := by simp [hm]
 obtain ⟨U, u1, u2, V, v1, v2, h3⟩ := H
 refine ⟨fun k => U k ∨ V k, fun k hk => hk.elim (u1 k) (fun h => (v1 k h).1), ?_, h3.mono (fun k hk => ⟨hk.1.1, fun h => h.elim hk.1.2 hk.2⟩)⟩
 have h4 : SLs w (fun k => U k ∨ V k) (List.zipWith (pieceO P) (gsN name ps) ys ++ leftN name (List.zipWith (pieceO P) (ps.map some) M)) :=
  SLs.app.2 ⟨U, fun k hk => .inl hk, u2, SLs.mono v2 (fun k hk => ⟨.inr hk, fun hu => (v1 k hk).2 hu⟩)⟩
 have h5 := names_back name _ _ _ (by rw [hl]; exact hk) (by simp [gsN_len, hy]) h4
 rw [put_zip name ps M ys hm hk hy] at h5
 exact h5
end Go.Proofs.YtoamjodmidbmbaaGreatDoor
