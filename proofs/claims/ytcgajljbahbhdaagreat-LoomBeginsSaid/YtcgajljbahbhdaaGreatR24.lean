/- Texts of the proof, several in one file: OpenM, LoomX8. -/
import Derived.Test.YtcgajljbahbhdaaGreatR18
namespace Go.Proofs.YtcgajljbahbhdaaGreat
set_option linter.unusedVariables false
set_option linter.unusedSimpArgs false
open Go.ChangeShapes Go.WideShapes Go.ChangeAt Go.RowKit
structure IntsX where
 l : List Int
 a : Option Addr
 c : Nat
structure IntsIn (w : World) (v : Value) (s : IntsX) : Prop where
 val : v = .slice s.a s.l.length s.c
 rd : Rd w 1 s.a s.l.length (ints s.l)
set_option maxRecDepth 100000 in
theorem open_sl_int {r : Reach} {b0 : Nat} {H : Type} {enc : TypeId × Value → H} {w : World} {base : Nat} {sp : Nat → Bool} {held : Bool} {v : Value} {d : DataW H} {p : List MemPlace}
  (hv : Value.okWide Tryz.prog w r b0 23 v) (h : DataW.Trod enc Tryz.prog w base sp held 23 v d p) : ∃ s, IntsIn w v s := by
 obtain ⟨l, hl⟩ := open_arg (opens_slice (sz := 1) (K := kInt) Tryz.underlying23 (by kernel_rfl) (by decide) (opens_int Tryz.underlying3)) h
 obtain ⟨a, cap, he, hc, hr⟩ := rd_of_slice (f := fun n => [Value.int .i64 n]) (fun _ => rfl) (hl.imp (fun _ _ h => h.1))
 rw [flat_ints] at hr
 obtain ⟨a', n', c', rfl⟩ := okWide_slice Tryz.underlying23 hv
 simp only [Value.cells] at he
 exact ⟨⟨l, a, cap⟩, List.head_eq_of_cons_eq he, hr⟩
end Go.Proofs.YtcgajljbahbhdaaGreat
namespace Go.Proofs.YtcgajljbahbhdaaGreat
set_option linter.unusedVariables false
set_option linter.unusedSimpArgs false
open Go.RowKit
theorem does_same {s s' : ScrM} (hd : s'.draws = s.draws) (x : LmM) (g : Int) (o : OpM) : doesL s' x g o = doesL s x g o := by
 unfold doesL chooseL drawL
 rw [hd]
theorem op_same {s s' : ScrM} (hp : s'.progs = s.progs) (x : LmM) (g : Int) : opL s' x g = opL s x g := by
 unfold opL
 rw [hp]
theorem ver_same {s s' : ScrM} {x : LmM} (h : s'.plan.length ≤ x.p ↔ s.plan.length ≤ x.p) : verL s' x = verL s x := by
 unfold verL
 simp only [h]
theorem step_same {s s' : ScrM} {x : LmM} (hp : s'.progs = s.progs) (hd : s'.draws = s.draws) (h : s'.plan.length ≤ x.p ↔ s.plan.length ≤ x.p) (hg : s'.plan.getD x.p 0 = s.plan.getD x.p 0) : stepL s' x = stepL s x := by
 have hw : whoL s' x = whoL s x := by unfold whoL; rw [hg]
 unfold stepL
 rw [ver_same h, hw, op_same hp, does_same hd]
theorem run_le (s : ScrM) : ∀ i, (runL s i).p ≤ i
 | 0 => Nat.le_refl 0
 | i + 1 => by
  have ih := run_le s i
  show (stepL s (runL s i)).p ≤ i + 1
  by_cases hv : verL s (runL s i) = 0
  ·rw [step_p hv]
   omega
  ·rw [step_stop hv]
   omega
theorem run_p {s : ScrM} : ∀ {i : Nat}, verL s (runL s i) = 0 → (runL s i).p = i
 | 0, _ => rfl
 | i + 1, h => by
  by_cases hv : verL s (runL s i) = 0
  ·show (stepL s (runL s i)).p = i + 1
   rw [step_p hv, run_p hv]
  ·exfalso
   have e : runL s (i + 1) = runL s i := step_stop hv
   rw [e] at h
   exact hv h
theorem run_over (s : ScrM) : verL s (runL s (s.plan.length + 1)) ≠ 0 := by
 intro h
 have h1 := run_p h
 obtain ⟨_, _, h2⟩ := ver_zero h
 omega
theorem take_getD {l : List Int} {n i : Nat} (h : i < n) : (l.take n).getD i 0 = l.getD i 0 := by
 rw [List.getD_eq_getElem?_getD, List.getD_eq_getElem?_getD, List.getElem?_take, if_pos h]
theorem run_take {s : ScrM} {n : Nat} (hn : n ≤ s.plan.length) : ∀ i, i ≤ n → runL { s with plan := s.plan.take n } i = runL s i
 | 0, _ => rfl
 | i + 1, h => by
  show stepL { s with plan := s.plan.take n } (runL { s with plan := s.plan.take n } i) = stepL s (runL s i)
  rw [run_take hn i (by omega)]
  have hp := run_le s i
  refine step_same rfl rfl ?_ (take_getD (by omega))
  show (s.plan.take n).length ≤ _ ↔ _
  rw [List.length_take]
  omega
theorem run_begins {s : ScrM} {n : Nat} (hn : n ≤ s.plan.length) : (runL { s with plan := s.plan.take n } ((s.plan.take n).length + 1)).tr <+: (runL s (s.plan.length + 1)).tr := by
 have hl : (s.plan.take n).length = n := by rw [List.length_take]; omega
 rw [hl]
 show (stepL { s with plan := s.plan.take n } (runL { s with plan := s.plan.take n } n)).tr <+: _
 rw [run_take hn n (Nat.le_refl n)]
 by_cases hv : verL { s with plan := s.plan.take n } (runL s n) = 0
 ·obtain ⟨_, _, hp⟩ := ver_zero hv
  have hp' : (runL s n).p < n := Nat.lt_of_lt_of_eq hp hl
  rw [step_same (s := s) (s' := { s with plan := s.plan.take n }) (x := runL s n) rfl rfl (by show (s.plan.take n).length ≤ _ ↔ _; rw [hl]; omega) (take_getD hp')]
  exact pre_run s (a := n + 1) (by omega)
 ·rw [step_stop hv]
  exact pre_run s (a := n) (by omega)
theorem check_take {s : ScrM} {n : Nat} (h : checkE s = 0) : checkE { s with plan := s.plan.take n } = 0 := by
 unfold checkE at h ⊢
 split at h
 ·cases h
 ·rename_i h1
  split at h
  ·cases h
  ·rename_i h2
   split at h
   ·cases h
   ·rename_i h3
    split at h
    ·cases h
    ·rename_i h4
     split at h
     ·cases h
     ·rename_i h5
      split at h
      ·cases h
      ·rename_i h6
       split at h
       ·cases h
       ·rename_i h7
        rw [if_neg h1, if_neg (show ¬ (8 < s.progs.length ∨ 200 < (s.plan.take n).length ∨ 64 < s.draws.length) by rw [List.length_take]; omega), if_neg h3, if_neg h4, if_neg h5, if_neg, if_neg h7]
        intro hh
        apply h6
        rw [List.all_eq_false] at hh ⊢
        obtain ⟨z, hz, h⟩ := hh
        exact ⟨z, List.mem_of_mem_take hz, h⟩
def Plain (s : ScrM) : Prop := ∀ p ∈ s.progs, ∀ o ∈ p, o.kind = 6 → o.cases.length ≤ 1
theorem opL_plain {s : ScrM} (h : Plain s) (x : LmM) (g : Int) : (opL s x g).kind = 6 → (opL s x g).cases.length ≤ 1 := by
 unfold opL
 split
 ·exact fun h => by cases h
 ·split
  ·exact fun h => by cases h
  ·rename_i p hp
   split
   ·exact fun h => by cases h
   ·rw [List.getD_eq_getElem?_getD]
    cases ho : p[(_ : One).place.toNat]? with
    | none => exact fun h => by cases h
    | some o => exact h p (List.mem_of_getElem? hp) o (List.mem_of_getElem? ho)
theorem does_plain {s s' : ScrM} {x : LmM} {g : Int} {o : OpM} (h : o.kind = 6 → o.cases.length ≤ 1) : doesL s' x g o = doesL s x g o := by
 unfold doesL
 split
 ·rfl
 ·split
  ·rfl
  ·split
   ·rfl
   ·split
    ·rename_i h6
     have hl := readyL_len (okN x) (pipesN x) o.cases
     have hc := h h6
     unfold chooseL
     dsimp only
     by_cases hr : 0 < (readyL (okN x) (pipesN x) o.cases).length
     ·rw [if_pos hr, if_pos hr]
      have h1 : (readyL (okN x) (pipesN x) o.cases).length = 1 := by omega
      have e : ∀ z : ScrM, drawL z x (readyL (okN x) (pipesN x) o.cases).length = (0, x) := fun z => by unfold drawL; rw [if_pos (.inl h1)]
      rw [e, e]
     ·rw [if_neg hr, if_neg hr]
    ·rfl
theorem run_plain {s s' : ScrM} (hp : s'.progs = s.progs) (hl : s'.plan = s.plan) (h : Plain s) : ∀ i, runL s' i = runL s i
 | 0 => rfl
 | i + 1 => by
  show stepL s' (runL s' i) = stepL s (runL s i)
  rw [run_plain hp hl h i]
  unfold stepL
  have hw : whoL s' (runL s i) = whoL s (runL s i) := by unfold whoL; rw [hl]
  rw [ver_same (s := s) (by rw [hl]), hw, op_same hp, does_plain (s := s) (opL_plain h _ _)]
theorem ver_plain {s s' : ScrM} (hl : s'.plan = s.plan) (x : LmM) : verL s' x = verL s x := ver_same (by rw [hl])
section
variable {A : Piece} {sz n m : Nat} {a : Option Addr} {xs : List Value}
theorem Reader.take (h : Reader A sz a n xs) (hm : m ≤ n) : Reader A sz a m (xs.take (m * sz)) := by
 intro S w hS
 obtain ⟨h1, h2, h3⟩ := h S w hS
 refine ⟨?_, by omega, fun h0 => ?_⟩
 ·rw [List.length_take, h1]
  exact Nat.min_eq_left (Nat.mul_le_mul_right sz hm)
 ·obtain ⟨b, off, ha, hc⟩ := h3 (by omega)
  refine ⟨b, off, ha, fun i u hu => hc i u ?_⟩
  rw [List.getElem?_take] at hu
  split at hu
  ·exact hu
  ·cases hu
theorem evs_take {l l0 : List Ev} (h : l <+: l0) : (l0.flatMap Ev.cells).take (l.length * 8) = l.flatMap Ev.cells := by
 obtain ⟨r, rfl⟩ := h
 rw [List.flatMap_append, List.take_append_of_le_length, List.take_of_length_le]
 ·rw [flat_length Ev.cells 8 (fun _ => rfl)]; exact Nat.le_refl _
 ·rw [flat_length Ev.cells 8 (fun _ => rfl)]; exact Nat.le_refl _
theorem ints_take (l : List Int) (k : Nat) : (ints l).take (k * 1) = ints (l.take k) := by simp [ints, List.map_take]
end
end Go.Proofs.YtcgajljbahbhdaaGreat
