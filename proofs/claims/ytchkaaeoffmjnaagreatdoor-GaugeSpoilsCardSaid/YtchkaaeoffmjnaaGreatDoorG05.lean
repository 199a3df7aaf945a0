/- Texts of the proof, several in one file: Names. -/
import Derived.Test.YtchkaaeoffmjnaaGreatDoorG04
namespace Go.Proofs.YtchkaaeoffmjnaaGreatDoor
set_option linter.unusedVariables false
set_option linter.unusedSimpArgs false
open Go.RowKit
def pickN (name : List Int) (L : List Piece) : List Piece := name.map (fun n => if 0 ≤ n then nth L n.toNat else emp)
def leftN : List Int → List Piece → List Piece
 | [], L => L
 | n :: ns, L => leftN ns (if 0 ≤ n then L.set n.toNat emp else L)
def putN {α : Type} : List Int → List α → List α → List α
 | n :: ns, y :: ys, L => putN ns ys (if 0 ≤ n then L.set n.toNat y else L)
 | _, _, L => L
theorem putN_back : ∀ (name : List Int) (ys M : List PipeM), putN name ys M = backN name ys M
 | [], _, _ => by unfold putN backN; rfl
 | n :: ns, [], M => by unfold putN backN; rfl
 | n :: ns, y :: ys, M => by
  unfold putN backN
  exact putN_back ns ys _
/-- The names are of different channels, which are there. -/
structure NamesOk (name : List Int) (k : Nat) : Prop where
 lt : ∀ n ∈ name, n < (k : Int)
 ne : name.Pairwise (fun a b => 0 ≤ a → a ≠ b)
theorem NamesOk.tail {n : Int} {ns : List Int} {k : Nat} (h : NamesOk (n :: ns) k) : NamesOk ns k := ⟨fun m hm => h.lt m (List.mem_cons_of_mem _ hm), (List.pairwise_cons.1 h.ne).2⟩
theorem NamesOk.head {n : Int} {ns : List Int} {k : Nat} (h : NamesOk (n :: ns) k) (h0 : 0 ≤ n) : ∀ m ∈ ns, n ≠ m := fun m hm => (List.pairwise_cons.1 h.ne).1 m hm h0
theorem nth_get : ∀ (L : List Piece) (i : Nat), i < L.length → L[i]? = some (nth L i)
 | A :: L, 0, _ => rfl
 | A :: L, i + 1, h => nth_get L i (by simpa using h)
theorem nth_set_ne : ∀ (L : List Piece) (i j : Nat) (A : Piece), i ≠ j → nth (L.set i A) j = nth L j
 | [], _, _, _, _ => rfl
 | B :: L, 0, 0, _, h => absurd rfl h
 | B :: L, 0, j + 1, _, _ => rfl
 | B :: L, i + 1, 0, _, _ => rfl
 | B :: L, i + 1, j + 1, A, h => nth_set_ne L i j A (by omega)
theorem pick_set {n : Int} {ns : List Int} {L : List Piece} (h0 : 0 ≤ n) (hn : ∀ m ∈ ns, n ≠ m) (A : Piece) : pickN ns (L.set n.toNat A) = pickN ns L := by
 unfold pickN
 refine List.map_congr_left (fun m hm => ?_)
 split
 ·exact nth_set_ne _ _ _ _ (by have := hn m hm; omega)
 ·rfl
theorem emps_in {w : World} {S : Nat → Prop} {L : List Piece} (h : SLs w S L) : SLs w S (emp :: L) := ⟨fun _ => False, fun _ h => h.elim, trivial, h.mono (fun k hk => ⟨hk, id⟩)⟩
theorem names_out {w : World} : ∀ (name : List Int) (L : List Piece) (S : Nat → Prop), NamesOk name L.length → SLs w S L → SLs w S (pickN name L ++ leftN name L)
 | [], L, S, _, h => h
 | n :: ns, L, S, hk, h => by
  by_cases h0 : 0 ≤ n
  ·have h1 : n.toNat < L.length := by have := hk.lt n List.mem_cons_self; omega
   have h2 := SLs.take n.toNat h (nth_get L n.toNat h1)
   have e : pickN (n :: ns) L ++ leftN (n :: ns) L = nth L n.toNat :: (pickN ns (L.set n.toNat emp) ++ leftN ns (L.set n.toNat emp)) := by
    rw [pick_set h0 (hk.head h0)]
    simp [pickN, leftN, h0]
   rw [e]
   exact SLs.congr (fun T hT => names_out ns _ T (by rw [List.length_set]; exact hk.tail) hT) h2
  ·have e : pickN (n :: ns) L ++ leftN (n :: ns) L = emp :: (pickN ns L ++ leftN ns L) := by simp [pickN, leftN, h0]
   rw [e]
   exact emps_in (names_out ns L S hk.tail h)
theorem putN_len {α : Type} : ∀ (name : List Int) (ys L : List α), (putN name ys L).length = L.length
 | [], _, _ => by unfold putN; rfl
 | n :: ns, [], L => by unfold putN; rfl
 | n :: ns, y :: ys, L => by
  unfold putN
  rw [putN_len ns ys]
  split
  ·rw [List.length_set]
  ·rfl
theorem putN_set {α : Type} : ∀ (ns : List Int) (ys L : List α) (i : Nat) (a : α), (∀ m ∈ ns, 0 ≤ m → m.toNat ≠ i) → putN ns ys (L.set i a) = (putN ns ys L).set i a
 | [], _, _, _, _, _ => by simp [putN]
 | n :: ns, [], L, _, _, _ => by simp [putN]
 | n :: ns, y :: ys, L, i, a, h => by
  unfold putN
  have ih := fun L' => putN_set ns ys L' i a (fun m hm => h m (List.mem_cons_of_mem _ hm))
  split
  ·rename_i h0
   rw [List.set_comm _ _ (fun e => h n List.mem_cons_self h0 e.symm), ih]
  ·exact ih L
theorem names_back {w : World} : ∀ (name : List Int) (Ys L : List Piece) (S : Nat → Prop), NamesOk name L.length → Ys.length = name.length → SLs w S (Ys ++ leftN name L) → SLs w S (putN name Ys L)
 | [], Ys, L, S, _, hl, h => by
  have : Ys = [] := List.eq_nil_of_length_eq_zero hl
  subst this
  unfold putN
  exact h
 | n :: ns, [], L, S, _, hl, h => by simp at hl
 | n :: ns, Y :: Ys, L, S, hk, hl, h => by
  unfold putN
  unfold leftN at h
  by_cases h0 : 0 ≤ n
  ·rw [if_pos h0] at h ⊢
   have h1 : n.toNat < L.length := by have := hk.lt n List.mem_cons_self; omega
   have h2 : SLs w S (Y :: putN ns Ys (L.set n.toNat emp)) := SLs.congr (fun T hT => names_back ns Ys _ T (by rw [List.length_set]; exact hk.tail) (by simpa using hl) hT) h
   have hne : ∀ m ∈ ns, 0 ≤ m → m.toNat ≠ n.toNat := fun m hm hm0 => by have := hk.head h0 m hm; omega
   rw [putN_set ns Ys L n.toNat emp hne] at h2
   have h3 := SLs.put (L := putN ns Ys L) n.toNat (by rw [putN_len]; exact h1) h2
   rw [← putN_set ns Ys L n.toNat Y hne] at h3
   exact h3
  ·rw [if_neg h0] at h ⊢
   exact names_back ns Ys L S hk.tail (by simpa using hl) (SLs.tl h)
def gsN (name : List Int) (ps : List Nat) : List (Option Nat) := name.map (fun n => if 0 ≤ n then ps[n.toNat]? else none)
def msN (name : List Int) (M : List PipeM) : List PipeM := name.map (fun n => if 0 ≤ n then M.getD n.toNat (emptyM 0) else emptyM 0)
theorem gsN_len (name : List Int) (ps : List Nat) : (gsN name ps).length = name.length := by simp [gsN]
theorem msN_len (name : List Int) (M : List PipeM) : (msN name M).length = name.length := by simp [msN]
theorem okN_gs {name : List Int} {ps : List Nat} (hk : NamesOk name ps.length) : oks (gsN name ps) = name.map (fun n => decide (0 ≤ n)) := by
 unfold oks gsN
 rw [List.map_map]
 refine List.map_congr_left (fun n hn => ?_)
 have := hk.lt n hn
 show (if 0 ≤ n then ps[n.toNat]? else none).isSome = _
 by_cases h0 : 0 ≤ n
 ·rw [if_pos h0, List.getElem?_eq_getElem (by omega), decide_eq_true h0]
  rfl
 ·rw [if_neg h0, decide_eq_false h0]
  rfl
theorem nth_zip {P : Nat → PipeM → Piece} : ∀ (ps : List Nat) (M : List PipeM) (i : Nat) (hi : i < ps.length) (hm : M.length = ps.length), nth (List.zipWith (pieceO P) (ps.map some) M) i = P (ps[i]) (M.getD i (emptyM 0))
 | p :: ps, x :: M, 0, _, _ => rfl
 | p :: ps, x :: M, i + 1, hi, hm => nth_zip ps M i (by simpa using hi) (by simpa using hm)
 | p :: ps, [], _, _, hm => by simp at hm
 | [], _, _, hi, _ => by simp at hi
theorem pick_zip {P : Nat → PipeM → Piece} {name : List Int} {ps : List Nat} {M : List PipeM} (hm : M.length = ps.length) (hk : NamesOk name ps.length) : pickN name (List.zipWith (pieceO P) (ps.map some) M) = List.zipWith (pieceO P) (gsN name ps) (msN name M) := by
 unfold pickN gsN msN
 rw [List.zipWith_map, List.zipWith_self]
 refine List.map_congr_left (fun n hn => ?_)
 have := hk.lt n hn
 by_cases h0 : 0 ≤ n
 ·rw [if_pos h0, if_pos h0, if_pos h0, nth_zip ps M _ (by omega) hm, List.getElem?_eq_getElem (by omega)]
  rfl
 ·rw [if_neg h0, if_neg h0]
  rfl
theorem put_zip {P : Nat → PipeM → Piece} : ∀ (name : List Int) (ps : List Nat) (M ys : List PipeM), M.length = ps.length → NamesOk name ps.length → ys.length = name.length →
  putN name (List.zipWith (pieceO P) (gsN name ps) ys) (List.zipWith (pieceO P) (ps.map some) M) = List.zipWith (pieceO P) (ps.map some) (backN name ys M)
 | [], ps, M, ys, _, _, _ => by unfold putN backN; rfl
 | n :: ns, ps, M, [], _, _, hl => by simp at hl
 | n :: ns, ps, M, y :: ys, hm, hk, hl => by
  have hlt := hk.lt n List.mem_cons_self
  have ih := fun M' (h : M'.length = ps.length) => put_zip (P := P) ns ps M' ys h hk.tail (by simpa using hl)
  show putN ns (List.zipWith (pieceO P) (gsN ns ps) ys) (if 0 ≤ n then (List.zipWith (pieceO P) (ps.map some) M).set n.toNat (pieceO P (if 0 ≤ n then ps[n.toNat]? else none) y) else _) = List.zipWith (pieceO P) (ps.map some) (backN ns ys (if 0 ≤ n then M.set n.toNat y else M))
  by_cases h0 : 0 ≤ n
  ·rw [if_pos h0, if_pos h0, if_pos h0, List.getElem?_eq_getElem (by omega)]
   have e := zip_set (P := P) (gs := ps.map some) (M := M) (i := n.toNat) (g := ps[n.toNat]'(by omega)) (by rw [List.getElem?_map, List.getElem?_eq_getElem (by omega)]; rfl) y
   show putN ns _ ((List.zipWith (pieceO P) (ps.map some) M).set n.toNat (P _ y)) = _
   rw [e]
   exact ih _ (by rw [List.length_set]; exact hm)
  ·rw [if_neg h0, if_neg h0]
   exact ih M hm
/-- The pipes by the names, out of all. -/
theorem pipes_out {w : World} {P : Nat → PipeM → Piece} {F : List Piece} {name : List Int} {ps : List Nat} {M : List PipeM} (hm : M.length = ps.length) (hk : NamesOk name ps.length) (H : SL w (all (List.zipWith (pieceO P) (ps.map some) M) :: F)) :
  SL w (all (List.zipWith (pieceO P) (gsN name ps) (msN name M)) :: all (leftN name (List.zipWith (pieceO P) (ps.map some) M)) :: F) := by
 have hl : (List.zipWith (pieceO P) (ps.map some) M).length = ps.length := by simp [hm]
 obtain ⟨T, h1, h2, h3⟩ := H
 have h4 := names_out name _ T (by rw [hl]; exact hk) (h2 : SLs w T _)
 rw [pick_zip hm hk] at h4
 obtain ⟨U, u1, u2, u3⟩ := SLs.app.1 h4
 exact ⟨U, fun k hk => h1 k (u1 k hk), u2, fun k => T k ∧ ¬ U k, fun k hk => ⟨h1 k hk.1, hk.2⟩, u3, h3.mono (fun k hk => ⟨⟨hk.1, fun hu => hk.2 (u1 k hu)⟩, fun ht => hk.2 ht.1⟩)⟩
theorem pipes_back {w : World} {P : Nat → PipeM → Piece} {F : List Piece} {name : List Int} {ps : List Nat} {M ys : List PipeM} (hm : M.length = ps.length) (hk : NamesOk name ps.length) (hy : ys.length = name.length)
  (H : SL w (all (List.zipWith (pieceO P) (gsN name ps) ys) :: all (leftN name (List.zipWith (pieceO P) (ps.map some) M)) :: F)) :
  SL w (all (List.zipWith (pieceO P) (ps.map some) (backN name ys M)) :: F) := by
 have hl : (List.zipWith (pieceO P) (ps.map some) M).length = ps.length := by simp [hm]
 obtain ⟨U, u1, u2, V, v1, v2, h3⟩ := H
 refine ⟨fun k => U k ∨ V k, fun k hk => hk.elim (u1 k) (fun h => (v1 k h).1), ?_, h3.mono (fun k hk => ⟨hk.1.1, fun h => h.elim hk.1.2 hk.2⟩)⟩
 have h4 : SLs w (fun k => U k ∨ V k) (List.zipWith (pieceO P) (gsN name ps) ys ++ leftN name (List.zipWith (pieceO P) (ps.map some) M)) :=
  SLs.app.2 ⟨U, fun k hk => .inl hk, u2, SLs.mono v2 (fun k hk => ⟨.inr hk, fun hu => (v1 k hk).2 hu⟩)⟩
 have h5 := names_back name _ _ _ (by rw [hl]; exact hk) (by simp [gsN_len, hy]) h4
 rw [put_zip name ps M ys hm hk hy] at h5
 exact h5
end Go.Proofs.YtchkaaeoffmjnaaGreatDoor
