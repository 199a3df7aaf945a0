/- Layer 10, plain: behind park and leave all is as it was; a ready case is done when it is tried. -/
import Derived.Test.YtlccpbdpfamekaaForkC
namespace Go.Proofs.Ytlccpbdpfamekaa
set_option linter.unusedVariables false
set_option linter.unusedSimpArgs false
open Go.RowKit

theorem without_again (g : Int) (L : List Wtr) : without g (without g L) = without g L := by
  unfold without
  rw [List.filter_filter]
  simp

theorem dropM_again (x : PipeM) (g : Int) : dropM (dropM x g) g = dropM x g := by
  unfold dropM
  simp only [without_again]

theorem leave_again (g : Int) (M : List PipeM) : (M.map (fun x => dropM x g)).map (fun x => dropM x g) = M.map (fun x => dropM x g) := by
  rw [List.map_map]
  exact List.map_congr_left (fun x _ => dropM_again x g)

theorem without_snoc_own (g : Int) (L : List Wtr) (m : Wtr) (h : m.g = g) : without g (L ++ [m]) = without g L := by
  unfold without
  rw [List.filter_append]
  simp [h]

/-- A wait either fails, and changes nothing, or puts just this one. -/
theorem wait_one (x : PipeM) (s : Bool) (m : Wtr) : ((waitF x s m).1 ≠ 0 ∧ (waitF x s m).2 = x) ∨ ((waitF x s m).1 = 0 ∧ dropM (waitF x s m).2 m.g = dropM x m.g ∧ dropN (waitF x s m).2 m.g = dropN x m.g + 1) := by
  have add : ∀ L : List Wtr, ((addF L m).1 ≠ 0 ∧ (addF L m).2 = L) ∨ ((addF L m).1 = 0 ∧ (addF L m).2 = L ++ [m]) := fun L => by
    unfold addF
    split
    · exact .inl ⟨by simp, rfl⟩
    · split
      · exact .inl ⟨by simp, rfl⟩
      · exact .inr ⟨rfl, rfl⟩
  unfold waitF
  split
  · exact .inl ⟨by simp, rfl⟩
  · split
    · rcases add x.senders with ⟨h1, h2⟩ | ⟨h1, h2⟩
      · exact .inl ⟨h1, by dsimp only; rw [h2]⟩
      · refine .inr ⟨h1, ?_, ?_⟩
        · unfold dropM
          dsimp only
          rw [h2, without_snoc_own _ _ _ rfl]
        · unfold dropN
          dsimp only
          rw [h2, without_snoc_own _ _ _ rfl]
          simp
          omega
    · rcases add x.receivers with ⟨h1, h2⟩ | ⟨h1, h2⟩
      · exact .inl ⟨h1, by dsimp only; rw [h2]⟩
      · refine .inr ⟨h1, ?_, ?_⟩
        · unfold dropM
          dsimp only
          rw [h2, without_snoc_own _ _ _ rfl]
        · unfold dropN
          dsimp only
          rw [h2, without_snoc_own _ _ _ rfl]
          simp
          omega

theorem leaveN_set (ok : List Bool) (g : Int) (M : List PipeM) (i : Nat) (y : PipeM) (hi : i < M.length) (ho : ok.getD i false = true) : ∀ n, leaveN ok g (M.set i y) n = leaveN ok g M n + if i < n then dropN y g - dropN (M.getD i (emptyM 0)) g else 0 := by
  intro n
  induction n with
  | zero => rfl
  | succ n ih =>
    unfold leaveN
    rw [ih]
    by_cases h : i = n
    · subst h
      rw [if_neg (Nat.lt_irrefl i), if_pos (Nat.lt_succ_self i), if_pos ho, if_pos ho]
      rw [List.getD_eq_getElem?_getD, List.getElem?_set_self hi]
      simp
      omega
    · have e : (M.set i y).getD n (emptyM 0) = M.getD n (emptyM 0) := by rw [List.getD_eq_getElem?_getD, List.getElem?_set_ne h, ← List.getD_eq_getElem?_getD]
      rw [e]
      by_cases h2 : i < n
      · rw [if_pos h2, if_pos (show i < n + 1 by omega)]
        generalize (if ok.getD n false = true then dropN (M.getD n (emptyM 0)) g else 0) = q
        omega
      · rw [if_neg h2, if_neg (show ¬ i < n + 1 by omega)]
        generalize (if ok.getD n false = true then dropN (M.getD n (emptyM 0)) g else 0) = q
        omega

theorem pos_ok {ok : List Bool} {c : Int} {i : Nat} (h : posF ok c = some i) : ok.getD i false = true := by
  unfold posF at h
  split at h
  · rename_i hh
    injection h with h
    subst h
    exact hh.2.2
  · cases h

theorem leaveN_nought (ok : List Bool) (g : Int) (M : List PipeM) (h : M.map (fun x => dropM x g) = M) : ∀ n, n ≤ M.length → leaveN ok g M n = 0 := by
  intro n
  induction n with
  | zero => intro _; rfl
  | succ n ih =>
    intro hn
    unfold leaveN
    rw [ih (by omega)]
    have e : dropM M[n] g = M[n] := by
      have := congrArg (fun l : List PipeM => l[n]?) h
      simp only [List.getElem?_map, List.getElem?_eq_getElem (show n < M.length by omega), Option.map_some, Option.some.injEq] at this
      exact this
    have e2 : dropN M[n] g = 0 := by
      have h1 := congrArg PipeM.senders e
      have h2 := congrArg PipeM.receivers e
      unfold dropM at h1 h2
      dsimp only at h1 h2
      unfold dropN
      rw [h1, h2]
      omega
    have e3 : M.getD n (emptyM 0) = M[n] := by rw [List.getD_eq_getElem?_getD, List.getElem?_eq_getElem (show n < M.length by omega)]; rfl
    rw [e3, e2]
    split <;> rfl

theorem park_leave (ok : List Bool) (g : Int) (L : List CaseM) (M : List PipeM) (hM : M.length = ok.length) (h : M.map (fun x => dropM x g) = M) (k : Nat) :
    (parkK ok g L M k).2.map (fun x => dropM x g) = M ∧ leaveN ok g (parkK ok g L M k).2 M.length = (parkK ok g L M k).1 := by
  induction k with
  | zero => exact ⟨h, leaveN_nought ok g M h _ (Nat.le_refl _)⟩
  | succ k ih =>
    unfold parkK
    split
    · exact ih
    · rename_i i hi
      have hl := parkK_len ok g L M k
      have hi' := pos_lt hi
      have hio := pos_ok hi
      have hlt : i < (parkK ok g L M k).2.length := by omega
      dsimp only
      obtain ⟨Mk, hMk⟩ : ∃ Mk, (parkK ok g L M k).2 = Mk := ⟨_, rfl⟩
      obtain ⟨nk, hnk⟩ : ∃ nk, (parkK ok g L M k).1 = nk := ⟨_, rfl⟩
      rw [hMk] at ih hl hlt
      rw [hMk, hnk]
      rw [hnk] at ih
      have hx : Mk.getD i (emptyM 0) = Mk[i] := by rw [List.getD_eq_getElem?_getD, List.getElem?_eq_getElem hlt]; rfl
      rcases wait_one (Mk.getD i (emptyM 0)) (L.getD k ⟨false, 0, 0⟩).send ⟨g, k, (L.getD k ⟨false, 0, 0⟩).value⟩ with ⟨h1, h2⟩ | ⟨h1, h2, h3⟩
      · rw [h2, if_neg h1, hx, List.set_getElem_self]
        exact ⟨ih.1, by rw [Int.add_zero]; exact ih.2⟩
      · rw [if_pos h1]
        dsimp only at h2 h3
        refine ⟨?_, ?_⟩
        · rw [List.map_set, h2, hx]
          have : dropM Mk[i] g = (Mk.map (fun x => dropM x g))[i]'(by simpa using hlt) := by simp
          rw [this, List.set_getElem_self]
          exact ih.1
        · rw [leaveN_set ok g Mk i _ hlt hio, if_pos (by omega), ih.2, h3]
          omega

theorem parkF_leave (ok : List Bool) (g : Int) (L : List CaseM) (M : List PipeM) (hM : M.length = ok.length) (h : M.map (fun x => dropM x g) = M) :
    leaveF ok g (parkF ok g L M).2 = ((parkF ok g L M).1.1, M) := by
  unfold parkF leaveF
  split
  · rw [h, leaveN_nought ok g M h _ (Nat.le_refl _)]
  · split
    · rw [h, leaveN_nought ok g M h _ (Nat.le_refl _)]
    · dsimp only
      obtain ⟨h1, h2⟩ := park_leave ok g L M hM h L.length
      rw [h1, parkK_len, h2]

theorem parkF_says (ok : List Bool) (g : Int) (L : List CaseM) (M : List PipeM) : ((parkF ok g L M).1.2 = 0 ∧ ¬ 0 < (readyL ok M L).length) ∨ ((parkF ok g L M).1.2 ≠ 0 ∧ (parkF ok g L M).1.1 = 0) := by
  unfold parkF
  split
  · exact .inr ⟨by simp, rfl⟩
  · split
    · exact .inr ⟨by simp, rfl⟩
    · rename_i h
      exact .inl ⟨rfl, h⟩

theorem try_says (ok : List Bool) (M : List PipeM) (c : CaseM) : (((tryF ok M c).1.1.ready || ((tryF ok M c).1.2 == 90)) = readyC ok M c) ∧ ((tryF ok M c).1.2 = 0 ∨ ((tryF ok M c).1.2 = 90 ∧ (tryF ok M c).1.1.ready = false ∧ c.send = true)) := by
  unfold tryF readyC
  rcases posF ok c.chan with _ | i
  · exact ⟨rfl, .inl rfl⟩
  · dsimp only
    obtain ⟨x, hx⟩ : ∃ x, M.getD i (emptyM 0) = x := ⟨_, rfl⟩
    rw [hx]
    cases hs : c.send
    · rw [if_neg (by simp)]
      refine ⟨?_, .inl rfl⟩
      dsimp only
      unfold recvF readyF
      rcases hb : x.buf with _ | ⟨a, L⟩
      · rcases hq : x.senders with _ | ⟨m, l⟩
        · by_cases hc : x.closed = true
          · simp [hc, gzero]
          · simp [hc, gzero]
        · simp
      · rcases hq : x.senders with _ | ⟨m, l⟩ <;> simp
    · rw [if_pos rfl]
      dsimp only
      unfold sendF readyF
      by_cases hc : x.closed = true
      · rw [if_pos hc]
        exact ⟨by simp [hc, gzero], .inr ⟨rfl, rfl, rfl⟩⟩
      · rw [if_neg hc]
        have hc' : x.closed = false := by simpa using hc
        rcases hr : x.receivers with _ | ⟨m, l⟩
        · dsimp only
          by_cases hz : x.buf.length < x.size
          · rw [if_pos hz]
            exact ⟨by simp [hz, hc'], .inl rfl⟩
          · rw [if_neg hz]
            exact ⟨by simp [hz, hc', gzero], .inl rfl⟩
        · exact ⟨by simp, .inl rfl⟩

end Go.Proofs.Ytlccpbdpfamekaa
