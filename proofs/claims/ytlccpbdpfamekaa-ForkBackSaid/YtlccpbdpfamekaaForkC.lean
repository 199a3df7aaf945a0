/- Layer 10, fork: what a try, a park, a leave make of the pipes; plain. -/
import Derived.Test.YtlccpbdpfamekaaForkB
namespace Go.Proofs.Ytlccpbdpfamekaa
set_option linter.unusedVariables false
set_option linter.unusedSimpArgs false
open Go.RowKit

def AllInv (n : Nat) (M : List PipeM) : Prop := ∀ x ∈ M, Inv9 n x

theorem AllInv.more {n k : Nat} {M : List PipeM} (h : AllInv n M) (hk : n ≤ k) : AllInv k M := fun x hx => (h x hx).more hk
theorem AllInv.set {n : Nat} {M : List PipeM} (h : AllInv n M) {y : PipeM} (hy : Inv9 n y) (i : Nat) : AllInv n (M.set i y) := fun x hx => (List.mem_or_eq_of_mem_set hx).elim (h x) (fun e => by rw [e]; exact hy)
theorem AllInv.get {n : Nat} {M : List PipeM} (h : AllInv n M) {i : Nat} (hi : i < M.length) : Inv9 n (M.getD i (emptyM 0)) := by
  rw [List.getD_eq_getElem?_getD, List.getElem?_eq_getElem hi]
  exact h _ (List.getElem_mem hi)

def tryF (ok : List Bool) (M : List PipeM) (c : CaseM) : (GotM × Int) × List PipeM :=
  match posF ok c.chan with
  | none => ((gzero, 0), M)
  | some i => if c.send then ((sendF (M.getD i (emptyM 0)) c.value).1, M.set i (sendF (M.getD i (emptyM 0)) c.value).2) else (((recvF (M.getD i (emptyM 0))).1, 0), M.set i (recvF (M.getD i (emptyM 0))).2)

theorem tryF_len (ok : List Bool) (M : List PipeM) (c : CaseM) : (tryF ok M c).2.length = M.length := by
  unfold tryF
  split
  · rfl
  · split <;> simp

theorem pos_lt {ok : List Bool} {c : Int} {i : Nat} (h : posF ok c = some i) : i < ok.length := by
  unfold posF at h
  split at h
  · injection h with h
    omega
  · cases h

theorem AllInv.try {n : Nat} {M : List PipeM} {ok : List Bool} (h : AllInv n M) (hM : M.length = ok.length) (c : CaseM) : AllInv (n + 1) (tryF ok M c).2 := by
  unfold tryF
  split
  · exact h.more (by omega)
  · rename_i i hi
    have hi' := pos_lt hi
    split
    · exact (h.more (Nat.le_succ n)).set ((h.get (by omega)).send _) i
    · exact (h.more (Nat.le_succ n)).set ((h.get (by omega)).recv) i

/-- Park, case by case: how many were put, and the pipes. -/
def parkK (ok : List Bool) (g : Int) (L : List CaseM) (M : List PipeM) : Nat → Int × List PipeM
  | 0 => (0, M)
  | k + 1 =>
    match posF ok (L.getD k ⟨false, 0, 0⟩).chan with
    | none => parkK ok g L M k
    | some i =>
      let r := waitF ((parkK ok g L M k).2.getD i (emptyM 0)) (L.getD k ⟨false, 0, 0⟩).send ⟨g, k, (L.getD k ⟨false, 0, 0⟩).value⟩
      ((parkK ok g L M k).1 + (if r.1 = 0 then 1 else 0), (parkK ok g L M k).2.set i r.2)

theorem parkK_len (ok : List Bool) (g : Int) (L : List CaseM) (M : List PipeM) (k : Nat) : (parkK ok g L M k).2.length = M.length := by
  induction k with
  | zero => rfl
  | succ k ih =>
    unfold parkK
    split
    · exact ih
    · simp [ih]

theorem AllInv.park {n : Nat} {M : List PipeM} {ok : List Bool} (h : AllInv n M) (hM : M.length = ok.length) (g : Int) (L : List CaseM) (k : Nat) : AllInv n (parkK ok g L M k).2 := by
  induction k with
  | zero => exact h
  | succ k ih =>
    unfold parkK
    split
    · exact ih
    · rename_i i hi
      have hi' := pos_lt hi
      have hl := parkK_len ok g L M k
      exact ih.set ((ih.get (by omega)).wait _ _) i

theorem parkK_bd (ok : List Bool) (g : Int) (L : List CaseM) (M : List PipeM) (k : Nat) : 0 ≤ (parkK ok g L M k).1 ∧ (parkK ok g L M k).1 ≤ k := by
  induction k with
  | zero => exact ⟨Int.le_refl _, Int.le_refl _⟩
  | succ k ih =>
    unfold parkK
    split
    · omega
    · dsimp only
      split <;> omega

def parkF (ok : List Bool) (g : Int) (L : List CaseM) (M : List PipeM) : (Int × Int) × List PipeM :=
  if g < 0 ∨ 4 < L.length then ((0, 1), M)
  else if 0 < (readyL ok M L).length then ((0, 7), M)
  else (((parkK ok g L M L.length).1, 0), (parkK ok g L M L.length).2)

theorem parkF_len (ok : List Bool) (g : Int) (L : List CaseM) (M : List PipeM) : (parkF ok g L M).2.length = M.length := by
  unfold parkF
  split
  · rfl
  · split
    · rfl
    · exact parkK_len ok g L M L.length

theorem AllInv.parkF {n : Nat} {M : List PipeM} {ok : List Bool} (h : AllInv n M) (hM : M.length = ok.length) (g : Int) (L : List CaseM) : AllInv n (parkF ok g L M).2 := by
  unfold Go.Proofs.Ytlccpbdpfamekaa.parkF
  split
  · exact h
  · split
    · exact h
    · exact h.park hM g L _

/-- Leave, pipe by pipe. -/
def dropN (x : PipeM) (g : Int) : Int := ((x.senders.length : Int) - (without g x.senders).length) + ((x.receivers.length : Int) - (without g x.receivers).length)

def leaveM (g : Int) (M : List PipeM) (k : Nat) : List PipeM := (M.take k).map (fun x => dropM x g) ++ M.drop k

def leaveN (ok : List Bool) (g : Int) (M : List PipeM) : Nat → Int
  | 0 => 0
  | k + 1 => leaveN ok g M k + (if ok.getD k false then dropN (M.getD k (emptyM 0)) g else 0)

def leaveF (ok : List Bool) (g : Int) (M : List PipeM) : Int × List PipeM := (leaveN ok g M M.length, M.map (fun x => dropM x g))

theorem leaveM_len (g : Int) (M : List PipeM) (k : Nat) : (leaveM g M k).length = M.length := by
  unfold leaveM
  simp
  omega

theorem leaveM_at (g : Int) (M : List PipeM) (k : Nat) (hk : k < M.length) : (leaveM g M k)[k]? = some M[k] := by
  unfold leaveM
  rw [List.getElem?_append_right (by simp; omega)]
  simp
  rw [show k - min k M.length = 0 by omega, Nat.add_zero, List.getElem?_eq_getElem hk]

theorem leaveM_succ (g : Int) (M : List PipeM) (k : Nat) (hk : k < M.length) : (leaveM g M k).set k (dropM M[k] g) = leaveM g M (k + 1) := by
  unfold leaveM
  rw [List.set_append_right _ _ (by simp; omega), List.length_map, List.length_take, Nat.min_eq_left (Nat.le_of_lt hk), Nat.sub_self, List.drop_eq_getElem_cons hk, List.set_cons_zero, List.take_succ_eq_append_getElem hk, List.map_append]
  simp

theorem leaveM_all (g : Int) (M : List PipeM) : leaveM g M M.length = M.map (fun x => dropM x g) := by
  unfold leaveM
  simp

theorem AllInv.leave {n : Nat} {M : List PipeM} (h : AllInv n M) (g : Int) : AllInv n (M.map (fun x => dropM x g)) := fun x hx => by
  obtain ⟨y, hy, rfl⟩ := List.mem_map.1 hx
  exact (h y hy).drop g

theorem dropN_bd {n : Nat} (x : PipeM) (g : Int) (h : Inv9 n x) : 0 ≤ dropN x g ∧ dropN x g ≤ 2048 := by
  have := without_le g x.senders
  have := without_le g x.receivers
  have := h.snd.1
  have := h.rcv.1
  unfold dropN
  omega

theorem leaveN_bd {n : Nat} (ok : List Bool) (g : Int) {M : List PipeM} (h : AllInv n M) (k : Nat) (hk : k ≤ M.length) : 0 ≤ leaveN ok g M k ∧ leaveN ok g M k ≤ 2048 * k := by
  induction k with
  | zero => exact ⟨Int.le_refl _, Int.le_refl _⟩
  | succ k ih =>
    have ih := ih (by omega)
    have hb := dropN_bd (M.getD k (emptyM 0)) g (h.get (show k < M.length by omega))
    unfold leaveN
    split <;> omega

theorem zip_none {P : Nat → PipeM → Piece} {gs : List (Option Nat)} {M : List PipeM} {i : Nat} (hg : gs[i]? = some none) (y : PipeM) : List.zipWith (pieceO P) gs (M.set i y) = List.zipWith (pieceO P) gs M := by
  apply List.ext_getElem?
  intro j
  rw [List.getElem?_zipWith, List.getElem?_zipWith]
  by_cases hj : i = j
  · subst hj
    rw [hg, List.getElem?_set_self']
    cases M[i]? <;> rfl
  · rw [List.getElem?_set_ne hj]

end Go.Proofs.Ytlccpbdpfamekaa
