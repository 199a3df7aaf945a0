/- Texts of the proof. -/
import Derived.Test.YtoamjodmidbmbaaGreatDoorX12
import Derived.Test.YtoamjodmidbmbaaGreatDoorX10
set_option linter.unusedVariables false
set_option linter.unusedSimpArgs false
namespace Go.Proofs.YtoamjodmidbmbaaGreatDoor
def putO (f t r : Nat) : List Edg := if f < t then [⟨f, t, r⟩] else []
def crsL (c : ChE) (k : Nat) : List Edg :=
 match c.outs[k]? with
 | none => []
 | some o => (match c.ins[k]? with
  | none => []
  | some p => putO p.1 o.2 3) ++ (match c.ins[k + c.size]? with
  | none => []
  | some p => putO o.1 p.2 (if c.size = 0 then 5 else 6))
section
variable {c : ChE} {es : List Edg} {l : List Ev} {f t r k : Nat} {x : Edg}
theorem putL_is : putL es f t r = es ++ putO f t r := by
 unfold putL putO
 split
 ·rfl
 ·rw [List.append_nil]
theorem mem_putO : x ∈ putO f t r ↔ f < t ∧ x = ⟨f, t, r⟩ := by
 unfold putO
 split
 ·rename_i h
  simp [h]
 ·rename_i h
  simp [h]
theorem crossK_is : crossK c es k = es ++ crsL c k := by
 unfold crossK crsL
 cases c.outs[k]? with
 | none => simp
 | some o =>
  dsimp only
  cases c.ins[k]? with
  | none =>
   cases c.ins[k + c.size]? with
   | none => simp
   | some p => simp [putL_is]
  | some q =>
   cases c.ins[k + c.size]? with
   | none => simp [putL_is]
   | some p => simp [putL_is, List.append_assoc]
theorem crossU_is : ∀ n, crossU c es n = es ++ (List.range n).flatMap (crsL c)
 | 0 => by simp [crossU]
 | n + 1 => by
  rw [crossU, crossU_is n, crossK_is, List.range_succ, List.flatMap_append, List.append_assoc]
  simp
theorem crossA_is {cs : List ChE} : ∀ m, crossA cs es m = es ++ (List.range m).flatMap fun j => (List.range (cs.getD j chz).outs.length).flatMap (crsL (cs.getD j chz))
 | 0 => by simp [crossA]
 | m + 1 => by
  rw [crossA, crossA_is m, crossU_is, List.range_succ, List.flatMap_append, List.append_assoc]
  simp
theorem raw_is (h : RtL l) : rawE l = (List.range l.length).flatMap (fun t => addA l t ++ addC l t) ++ (List.range (makesR l l.length)).flatMap fun (c : Nat) => (List.range (doneF l c false).length).flatMap (crsL (chU l l.length c)) := by
 unfold rawE
 rw [read_form h _ (Nat.le_refl _), crossA_is]
 show (List.range l.length).flatMap (fun t => addA l t ++ addC l t) ++ (List.range ((List.range (makesR l l.length)).map (chU l l.length)).length).flatMap _ = _
 rw [List.length_map, List.length_range]
 congr 1
 rw [List.flatMap_def, List.flatMap_def]
 congr 1
 refine List.map_congr_left fun j hj => ?_
 have hj := List.mem_range.1 hj
 show (List.range (((List.range (makesR l l.length)).map (chU l l.length)).getD j chz).outs.length).flatMap (crsL (((List.range (makesR l l.length)).map (chU l l.length)).getD j chz)) = _
 rw [get_range hj]
 show (List.range ((doneU l j false l.length).map (bp l)).length).flatMap _ = _
 rw [List.length_map]
 rfl
theorem btw_iff {g : Int} : btwF l f t g = true ↔ ∃ k, f < k ∧ k < t ∧ (l.getD k evz).g = g ∧ (l.getD k evz).kind ≠ 13 := by
 unfold btwF
 rw [List.any_eq_true]
 constructor
 ·rintro ⟨k, h1, h2⟩
  simp only [Bool.and_eq_true, decide_eq_true_eq, beq_iff_eq, bne_iff_ne] at h2
  exact ⟨k, h2.1.1, List.mem_range.1 h1, h2.1.2, h2.2⟩
 ·rintro ⟨k, h1, h2, h3, h4⟩
  refine ⟨k, List.mem_range.2 h2, ?_⟩
  simp only [Bool.and_eq_true, decide_eq_true_eq, beq_iff_eq, bne_iff_ne]
  exact ⟨⟨h1, h3⟩, h4⟩
theorem size_is {c : Int} : sizeF l c = (mkU l c l.length).getD 0 := by
 have key : ∀ i, i ≤ l.length → mkU l c i = ((l.take i).find? (fun e => e.kind == 2 && e.chan == c)).map (fun e => e.value.toNat) := by
  intro i
  induction i with
  | zero => intro _; rfl
  | succ i ih =>
   intro hi
   rw [mkU, ih (by omega), List.take_add_one, List.getElem?_eq_getElem (show i < l.length by omega), Option.toList_some, List.find?_append]
   cases hf : (l.take i).find? (fun e => e.kind == 2 && e.chan == c) with
   | some e => rfl
   | none =>
    have hg : l.getD i evz = l[i] := by rw [List.getD_eq_getElem?_getD, List.getElem?_eq_getElem (show i < l.length by omega)]; rfl
    rw [hg]
    simp only [Option.map_none, Option.none_or, List.find?_singleton, Bool.and_eq_true, beq_iff_eq]
    split <;> rfl
 rw [key _ (Nat.le_refl _), List.take_length]
 unfold sizeF
 cases l.find? (fun e => e.kind == 2 && e.chan == c) <;> rfl
theorem spW_ne {g : Int} {j : Nat} : ∀ {i}, j < i → (l.getD j evz).kind = 1 → (l.getD j evz).mate = g → ∃ k, spF l g i = some k
 | 0, h, _, _ => by omega
 | i + 1, h, h1, h2 => by
  unfold spF
  split
  ·exact ⟨_, rfl⟩
  ·rename_i hh
   exact spW_ne (by
    rcases Nat.lt_or_ge j i with h3 | h3
    ·exact h3
    ·obtain rfl : j = i := by omega
     exact absurd ⟨h1, h2⟩ hh) h1 h2
theorem ins_shut {c : Int} {j : Nat} (h5 : (l.getD j evz).kind = 5) (hc : (l.getD j evz).chan = c) : ∀ i, j < i → (insR l c i).closed = true
 | 0, h => by omega
 | i + 1, h => by
  show (insStep l c i (insR l c i)).closed = true
  unfold insStep
  dsimp only
  by_cases hji : j = i
  ·subst hji
   rw [if_neg (fun e => e hc), if_pos h5]
   split
   ·rfl
   ·split
    ·split <;> rfl
    ·rfl
  ·have ih := ins_shut h5 hc i (by omega)
   split
   ·exact ih
   ·rw [ih]
    have e : (if (l.getD i evz).kind = 5 then true else true) = true := by split <;> rfl
    rw [e]
    split
    ·rfl
    ·split
     ·split <;> rfl
     ·rfl
end
structure DoneO (l : List Ev) (c : Int) (s : Bool) (j d : Nat) : Prop where
 chan : (l.getD j evz).chan = c
 kind : (l.getD j evz).kind = 3 ∨ ((l.getD j evz).kind = 4 ∧ (l.getD j evz).ok = true)
 is : (d = j ∧ (l.getD j evz).send = s) ∨ (d = j + 1 ∧ j + 1 < l.length ∧ (l.getD j evz).send = (!s) ∧ 0 ≤ (l.getD j evz).mate ∧ (l.getD d evz).kind = 7 ∧ (l.getD d evz).g = (l.getD j evz).mate ∧ (l.getD d evz).chan = c ∧ (l.getD d evz).send = s ∧ (l.getD d evz).ok = true)
section
variable {l : List Ev} {c : Int} {s : Bool} {i j d : Nat}
theorem done_of : ∀ {i}, d ∈ doneU l c s i → ∃ j, j < i ∧ d ∈ doneO l c s j
 | 0, h => by cases h
 | i + 1, h => by
  rw [doneU] at h
  rcases List.mem_append.1 h with h | h
  ·obtain ⟨j, a, b⟩ := done_of h
   exact ⟨j, by omega, b⟩
  ·exact ⟨i, by omega, h⟩
theorem RtL.doneO (h : RtL l) (hj : j < l.length) (hd : d ∈ doneO l c s j) : DoneO l c s j d := by
 unfold Go.Proofs.YtoamjodmidbmbaaGreatDoor.doneO at hd
 by_cases h1 : (l.getD j evz).chan ≠ c ∨ ((l.getD j evz).kind ≠ 3 ∧ ((l.getD j evz).kind ≠ 4 ∨ (l.getD j evz).ok = false))
 ·rw [if_pos h1] at hd
  cases hd
 ·rw [if_neg h1] at hd
  have hc : (l.getD j evz).chan = c := Classical.byContradiction fun e => h1 (.inl e)
  have hk : (l.getD j evz).kind = 3 ∨ ((l.getD j evz).kind = 4 ∧ (l.getD j evz).ok = true) := by
   by_cases h3 : (l.getD j evz).kind = 3
   ·exact .inl h3
   ·right
    refine ⟨Classical.byContradiction fun e => h1 (.inr ⟨h3, .inl e⟩), ?_⟩
    cases ho : (l.getD j evz).ok with
    | true => rfl
    | false => exact absurd (.inr ⟨h3, .inr ho⟩) h1
  by_cases h2 : (l.getD j evz).send = s
  ·rw [if_pos h2] at hd
   exact ⟨hc, hk, .inl ⟨List.mem_singleton.1 hd, h2⟩⟩
  ·rw [if_neg h2] at hd
   split at hd
   ·rename_i h3
    obtain rfl := List.mem_singleton.1 hd
    obtain ⟨w1, w2, w3, w4, w5⟩ := h.wake h3.2 h3.1 (by omega)
    have hs : (l.getD j evz).send = (!s) := by
     revert h2
     generalize (l.getD j evz).send = x
     cases x <;> cases s <;> decide
    refine ⟨hc, hk, .inr ⟨rfl, h3.2, hs, h3.1, w1, w2, w3.trans hc, ?_, w5⟩⟩
    rw [w4, hs, Bool.not_not]
   ·cases hd
theorem DoneO.kinds (hd : DoneO l c s j d) (hj : j < l.length) : d < l.length ∧ (l.getD d evz).chan = c ∧ (l.getD d evz).kind ≠ 13 ∧ (l.getD d evz).kind ≠ 5 := by
 have hk := hd.kind
 rcases hd.is with ⟨rfl, _⟩ | ⟨rfl, h1, _, _, h2, _, h3, _⟩
 ·exact ⟨hj, hd.chan, by omega, by omega⟩
 ·exact ⟨h1, h3, by omega, by omega⟩
theorem DoneO.beg (h : RtL l) (hd : DoneO l c s j d) (hj : j < l.length) : begF l d ≤ d ∧ ((l.getD (begF l d) evz).kind = 6 ∨ (begF l d = j ∧ d = j)) ∧ begF l d ≤ j := by
 have hk := hd.kind
 rcases hd.is with ⟨rfl, _⟩ | ⟨rfl, h1, _, hm, h2, _⟩
 ·rw [beg_own (by omega)]
  exact ⟨Nat.le_refl _, .inr ⟨rfl, rfl⟩, Nat.le_refl _⟩
 ·obtain ⟨p, hp, hb⟩ := beg_wake h h1 hm (by omega)
  obtain ⟨p1, p2, _⟩ := pkW_some hp
  rw [hb]
  exact ⟨by omega, .inl p2, by omega⟩
theorem done_le (h : RtL l) : ∀ {i}, i ≤ l.length → (doneU l c s i).Pairwise (· < ·) ∧ ∀ d ∈ doneU l c s i, d ≤ i ∧ (d = i → i < l.length ∧ (l.getD i evz).kind = 7)
 | 0, _ => ⟨List.Pairwise.nil, fun d hd => by cases hd⟩
 | i + 1, hi => by
  obtain ⟨ih1, ih2⟩ := done_le h (i := i) (by omega)
  have hO : ∀ d ∈ doneO l c s i, DoneO l c s i d := fun d hd => h.doneO (by omega) hd
  have hlt : ∀ a ∈ doneU l c s i, ∀ d ∈ doneO l c s i, a < d := fun a ha d hd => by
   obtain ⟨a1, a2⟩ := ih2 a ha
   have o := hO d hd
   have hk := o.kind
   have : a ≠ i := fun e => by have := (a2 e).2; omega
   rcases o.is with ⟨rfl, _⟩ | ⟨rfl, _⟩ <;> omega
  rw [doneU]
  refine ⟨List.pairwise_append.2 ⟨ih1, ?_, hlt⟩, fun d hd => ?_⟩
  ·unfold Go.Proofs.YtoamjodmidbmbaaGreatDoor.doneO
   split
   ·exact List.Pairwise.nil
   ·split
    ·exact List.pairwise_singleton _ _
    ·split
     ·exact List.pairwise_singleton _ _
     ·exact List.Pairwise.nil
  ·rcases List.mem_append.1 hd with hd | hd
   ·have := (ih2 d hd).1
    exact ⟨by omega, fun e => by omega⟩
   ·rcases (hO d hd).is with ⟨rfl, _⟩ | ⟨rfl, h1, _, _, h2, _⟩
    ·exact ⟨by omega, fun e => by omega⟩
    ·exact ⟨Nat.le_refl _, fun _ => ⟨h1, h2⟩⟩
theorem done_get (h : RtL l) {k : Nat} (hk : (doneF l c s)[k]? = some d) : ∃ j, j < l.length ∧ DoneO l c s j d := by
 obtain ⟨j, a, b⟩ := done_of (List.mem_of_getElem? hk)
 exact ⟨j, a, h.doneO a b⟩
theorem done_inj (h : RtL l) {k k' : Nat} (hk : (doneF l c s)[k]? = some d) (hk' : (doneF l c s)[k']? = some d) : k = k' := by
 have hp : (doneF l c s).Pairwise (· < ·) := (done_le (c := c) (s := s) h (Nat.le_refl l.length)).1
 obtain ⟨a1, a2⟩ := List.getElem?_eq_some_iff.1 hk
 obtain ⟨b1, b2⟩ := List.getElem?_eq_some_iff.1 hk'
 have hlt := fun (i j : Nat) (hi : i < (doneF l c s).length) (hj : j < (doneF l c s).length) (hij : i < j) => List.pairwise_iff_getElem.1 hp i j hi hj hij
 rcases Nat.lt_trichotomy k k' with h1 | h1 | h1
 ·have := hlt k k' a1 b1 h1
  omega
 ·exact h1
 ·have := hlt k' k b1 a1 h1
  omega
theorem done_chan (h : RtL l) {k : Nat} (hk : (doneF l c s)[k]? = some d) : (l.getD d evz).chan = c ∧ d < l.length ∧ (l.getD d evz).kind ≠ 13 := by
 obtain ⟨j, a, b⟩ := done_get h hk
 obtain ⟨x, y, z, _⟩ := b.kinds a
 exact ⟨y, x, z⟩
theorem outs_at {k : Nat} {c : Nat} : (chU l l.length c).outs[k]? = ((doneF l c false)[k]?).map (bp l) := List.getElem?_map
theorem ins_at {k : Nat} {c : Nat} : (chU l l.length c).ins[k]? = ((doneF l c true)[k]?).map (bp l) := List.getElem?_map
end
section
variable {l : List Ev} {x : Edg} {t k : Nat}
theorem mem_addA : x ∈ addA l t ↔ (l.getD t evz).kind ≠ 13 ∧ x.dst = t ∧ ((x.rule = 1 ∧ ownF l (l.getD t evz).g t = some x.src) ∨ (x.rule = 2 ∧ ownF l (l.getD t evz).g t = none ∧ spF l (l.getD t evz).g t = some x.src)) := by
 obtain ⟨f, d, r⟩ := x
 unfold addA
 by_cases h13 : (l.getD t evz).kind = 13
 ·rw [if_pos h13]
  exact ⟨fun e => absurd e List.not_mem_nil, fun e => absurd h13 e.1⟩
 ·rw [if_neg h13]
  cases ho : ownF l (l.getD t evz).g t with
  | some y =>
   simp only [List.mem_singleton, Edg.mk.injEq, Option.some.injEq, reduceCtorEq, false_and, and_false, or_false]
   constructor
   ·rintro ⟨rfl, rfl, rfl⟩
    exact ⟨h13, rfl, rfl, rfl⟩
   ·rintro ⟨_, rfl, rfl, rfl⟩
    exact ⟨rfl, rfl, rfl⟩
  | none =>
   cases hs : spF l (l.getD t evz).g t with
   | some y =>
    simp only [List.mem_singleton, Edg.mk.injEq, Option.some.injEq, reduceCtorEq, and_false, false_or, true_and]
    constructor
    ·rintro ⟨rfl, rfl, rfl⟩
     exact ⟨h13, rfl, rfl, rfl⟩
    ·rintro ⟨_, rfl, rfl, rfl⟩
     exact ⟨rfl, rfl, rfl⟩
   | none => simp
theorem mem_addC : x ∈ addC l t ↔ x.dst = t ∧ x.rule = 4 ∧ ((l.getD t evz).kind = 4 ∨ (l.getD t evz).kind = 7) ∧ (l.getD t evz).ok = false ∧ clF l (l.getD t evz).chan t = some x.src := by
 obtain ⟨f, d, r⟩ := x
 unfold addC
 split
 ·rename_i hh
  cases hs : clF l (l.getD t evz).chan t with
  | some y =>
   simp only [List.mem_singleton, Edg.mk.injEq, Option.some.injEq]
   constructor
   ·rintro ⟨rfl, rfl, rfl⟩
    exact ⟨rfl, rfl, hh.1, hh.2, rfl⟩
   ·rintro ⟨rfl, rfl, _, _, rfl⟩
    exact ⟨rfl, rfl, rfl⟩
  | none => simp
 ·rename_i hh
  constructor
  ·intro h; cases h
  ·rintro ⟨_, _, a, b, _⟩
   exact absurd ⟨a, b⟩ hh
theorem mem_crsL {c : Nat} : x ∈ crsL (chU l l.length c) k ↔ ∃ o, (doneF l c false)[k]? = some o ∧ x.src < x.dst ∧ ((x.rule = 3 ∧ x.dst = o ∧ ∃ p, (doneF l c true)[k]? = some p ∧ x.src = begF l p) ∨ (x.src = begF l o ∧ x.rule = (if sizeF l c = 0 then 5 else 6) ∧ (doneF l c true)[k + sizeF l c]? = some x.dst)) := by
 obtain ⟨f, d, r⟩ := x
 have hsz : (chU l l.length c).size = sizeF l c := size_is.symm
 unfold crsL
 rw [outs_at, ins_at, ins_at, hsz]
 cases ho : (doneF l c false)[k]? with
 | none => simp
 | some o =>
  simp only [Option.map_some, Option.some.injEq, exists_eq_left', List.mem_append]
  have e1 : (⟨f, d, r⟩ : Edg) ∈ (match ((doneF l c true)[k]?).map (bp l) with | none => [] | some p => putO p.1 (bp l o).2 3) ↔ f < d ∧ r = 3 ∧ d = o ∧ ∃ p, (doneF l c true)[k]? = some p ∧ f = begF l p := by
   cases (doneF l c true)[k]? with
   | none => simp
   | some p =>
    simp only [Option.map_some, mem_putO, bp, Edg.mk.injEq, Option.some.injEq, exists_eq_left']
    constructor
    ·rintro ⟨a, rfl, rfl, rfl⟩
     exact ⟨a, rfl, rfl, rfl⟩
    ·rintro ⟨a, rfl, rfl, rfl⟩
     exact ⟨a, rfl, rfl, rfl⟩
  have e2 : (⟨f, d, r⟩ : Edg) ∈ (match ((doneF l c true)[k + sizeF l c]?).map (bp l) with | none => [] | some p => putO (bp l o).1 p.2 (if sizeF l c = 0 then 5 else 6)) ↔ f < d ∧ f = begF l o ∧ r = (if sizeF l c = 0 then 5 else 6) ∧ (doneF l c true)[k + sizeF l c]? = some d := by
   cases (doneF l c true)[k + sizeF l c]? with
   | none => simp
   | some p =>
    simp only [Option.map_some, mem_putO, bp, Edg.mk.injEq, Option.some.injEq]
    constructor
    ·rintro ⟨a, rfl, rfl, rfl⟩
     exact ⟨a, rfl, rfl, rfl⟩
    ·rintro ⟨a, rfl, rfl, rfl⟩
     exact ⟨a, rfl, rfl, rfl⟩
  rw [e1, e2]
  constructor
  ·rintro (⟨a, b⟩ | ⟨a, b⟩)
   ·exact ⟨a, .inl b⟩
   ·exact ⟨a, .inr b⟩
  ·rintro ⟨a, b | b⟩
   ·exact .inl ⟨a, b⟩
   ·exact .inr ⟨a, b⟩
theorem getD_of {L : List Nat} {d : Nat} (h : L[k]? = some d) : k < L.length ∧ L.getD k 0 = d := by
 obtain ⟨a, b⟩ := List.getElem?_eq_some_iff.1 h
 exact ⟨a, by rw [List.getD_eq_getElem?_getD, h]; rfl⟩
theorem of_getD {L : List Nat} {d : Nat} (h : k < L.length) (hd : L.getD k 0 = d) : L[k]? = some d := by
 rw [List.getD_eq_getElem?_getD, List.getElem?_eq_getElem h] at hd
 rw [List.getElem?_eq_getElem h]
 exact congrArg some hd
theorem crs_iff {f t r : Nat} : crsF l f t r = true ↔ 0 ≤ (l.getD t evz).chan ∧ ∃ k o, (doneF l (l.getD t evz).chan false)[k]? = some o ∧ ((r = 3 ∧ t = o ∧ ∃ p, (doneF l (l.getD t evz).chan true)[k]? = some p ∧ f = begF l p) ∨ (f = begF l o ∧ (doneF l (l.getD t evz).chan true)[k + sizeF l (l.getD t evz).chan]? = some t ∧ (r = 5 ∧ sizeF l (l.getD t evz).chan = 0 ∨ r = 6 ∧ 0 < sizeF l (l.getD t evz).chan))) := by
 unfold crsF
 dsimp only
 generalize (l.getD t evz).chan = c
 by_cases hc : c < 0
 ·rw [if_pos hc]
  constructor
  ·intro h; cases h
  ·rintro ⟨h, _⟩; omega
 ·rw [if_neg hc, List.any_eq_true]
  constructor
  ·rintro ⟨k, hk, h⟩
   have hk := List.mem_range.1 hk
   refine ⟨by omega, k, (doneF l c false).getD k 0, of_getD hk rfl, ?_⟩
   simp only [Bool.or_eq_true, Bool.and_eq_true, beq_iff_eq, decide_eq_true_eq] at h
   rcases h with ⟨⟨⟨a, b⟩, d⟩, e⟩ | ⟨⟨⟨a, b⟩, d⟩, e⟩
   ·exact .inl ⟨a, e.symm, (doneF l c true).getD k 0, of_getD b rfl, d.symm⟩
   ·exact .inr ⟨b.symm, of_getD a d, e⟩
  ·rintro ⟨_, k, o, ho, h⟩
   obtain ⟨h1, h2⟩ := getD_of ho
   refine ⟨k, List.mem_range.2 h1, ?_⟩
   simp only [Bool.or_eq_true, Bool.and_eq_true, beq_iff_eq, decide_eq_true_eq]
   rcases h with ⟨a, b, p, e, g⟩ | ⟨a, b, e⟩
   ·obtain ⟨p1, p2⟩ := getD_of e
    exact .inl ⟨⟨⟨a, p1⟩, by rw [p2]; exact g.symm⟩, by rw [h2]; exact b.symm⟩
   ·obtain ⟨p1, p2⟩ := getD_of b
    exact .inr ⟨⟨⟨p1, by rw [h2]; exact a.symm⟩, p2⟩, e⟩
theorem mem_raw (h : RtL l) : x ∈ rawE l ↔ (∃ t, t < l.length ∧ (x ∈ addA l t ∨ x ∈ addC l t)) ∨ ∃ c, c < makesR l l.length ∧ ∃ k, k < (doneF l c false).length ∧ x ∈ crsL (chU l l.length c) k := by
 rw [raw_is h, List.mem_append, List.mem_flatMap, List.mem_flatMap]
 simp only [List.mem_range, List.mem_append, List.mem_flatMap]
theorem raw_mem (h : RtL l) : x ∈ rawE l ↔ x.dst < l.length ∧ x.src < x.dst ∧ 1 ≤ x.rule ∧ x.rule ≤ 6 ∧ isF l x.src x.dst x.rule = true := by
 rw [mem_raw h]
 obtain ⟨f, d, r⟩ := x
 dsimp only
 constructor
 ·rintro (⟨t, ht, hx | hx⟩ | ⟨c, hc, k, hk, hx⟩)
  ·obtain ⟨h13, hd, hh⟩ := mem_addA.1 hx
   dsimp only at hd hh
   subst hd
   rcases hh with ⟨rfl, ho⟩ | ⟨rfl, ho, hs⟩
   ·obtain ⟨o1, o2, o3, o4⟩ := ownW_some ho
    refine ⟨ht, o1, by decide, by decide, ?_⟩
    unfold isF
    rw [if_neg (by omega), if_pos rfl]
    have hb : btwF l f d (l.getD d evz).g = false := by
     cases hb : btwF l f d (l.getD d evz).g with
     | false => rfl
     | true =>
      obtain ⟨k, k1, k2, k3, k4⟩ := btw_iff.1 hb
      exact absurd ⟨k4, k3⟩ (o4 k k1 k2)
    rw [hb, o3]
    simp
   ·obtain ⟨s1, s2, s3⟩ := spW_some hs
    refine ⟨ht, s1, by decide, by decide, ?_⟩
    unfold isF
    rw [if_neg (by omega), if_neg (by decide), if_pos rfl]
    have hb : btwF l f d (l.getD d evz).g = false := by
     cases hb : btwF l f d (l.getD d evz).g with
     | false => rfl
     | true =>
      obtain ⟨k, k1, k2, k3, k4⟩ := btw_iff.1 hb
      exact absurd ⟨k4, k3⟩ (ownW_none ho k k2)
    rw [hb, s2, s3]
    simp
  ·obtain ⟨hd, hr, hk, ho, hs⟩ := mem_addC.1 hx
   dsimp only at hd hr hs
   subst hd
   subst hr
   obtain ⟨s1, s2, s3⟩ := clW_some hs
   refine ⟨ht, s1, by decide, by decide, ?_⟩
   unfold isF
   rw [if_neg (by omega), if_neg (by decide), if_neg (by decide), if_pos rfl, s2, s3, ho]
   have hkb : ((l.getD d evz).kind == 4 || (l.getD d evz).kind == 7) = true := by
    rw [Bool.or_eq_true, beq_iff_eq, beq_iff_eq]
    exact hk
   rw [hkb, beq_self_eq_true, beq_self_eq_true]
   rfl
  ·obtain ⟨o, ho, hfd, hh⟩ := mem_crsL.1 hx
   dsimp only at hfd hh
   obtain ⟨oc, ol, o13⟩ := done_chan h ho
   obtain ⟨jo, jo1, jo2⟩ := done_get h ho
   rcases hh with ⟨rfl, rfl, p, hp, rfl⟩ | ⟨rfl, hr, hp⟩
   ·obtain ⟨pc, plz, p13⟩ := done_chan h hp
    obtain ⟨jp, jp1, jp2⟩ := done_get h hp
    have hb := jp2.beg h jp1
    have hkj := jp2.kind
    refine ⟨ol, hfd, by decide, by decide, ?_⟩
    unfold isF
    have hb13 : (l.getD (begF l p) evz).kind ≠ 13 := by
     rcases hb.2.1 with e | ⟨e, _⟩
     ·omega
     ·rw [e]; omega
    rw [if_neg (by omega), if_neg (by decide), if_neg (by decide), if_neg (by decide)]
    refine crs_iff.2 ⟨by omega, k, d, ?_⟩
    rw [oc]
    exact ⟨ho, .inl ⟨rfl, rfl, p, hp, rfl⟩⟩
   ·obtain ⟨pc, plz, p13⟩ := done_chan h hp
    have hb := jo2.beg h jo1
    have hkj := jo2.kind
    have hb13 : (l.getD (begF l o) evz).kind ≠ 13 := by
     rcases hb.2.1 with e | ⟨e, _⟩
     ·omega
     ·rw [e]; omega
    have hr56 : (r = 5 ∧ sizeF l (c : Int) = 0 ∨ r = 6 ∧ 0 < sizeF l (c : Int)) := by
     split at hr
     ·rename_i h0
      exact .inl ⟨hr, h0⟩
     ·rename_i h0
      exact .inr ⟨hr, by omega⟩
    refine ⟨plz, hfd, by omega, by omega, ?_⟩
    unfold isF
    rw [if_neg (by omega), if_neg (by omega), if_neg (by omega), if_neg (by omega)]
    refine crs_iff.2 ⟨by omega, k, o, ?_⟩
    rw [pc]
    exact ⟨ho, .inr ⟨rfl, hp, hr56⟩⟩
 ·rintro ⟨hd, hfd, h1, h6, his⟩
  unfold isF at his
  by_cases h13 : (l.getD f evz).kind = 13 ∨ (l.getD d evz).kind = 13
  ·rw [if_pos h13] at his
   cases his
  ·rw [if_neg h13] at his
   by_cases hr1 : r = 1
   ·rw [if_pos hr1] at his
    simp only [Bool.and_eq_true, beq_iff_eq, Bool.not_eq_true'] at his
    refine .inl ⟨d, hd, .inl (mem_addA.2 ⟨fun e => h13 (.inr e), rfl, .inl ⟨hr1, ownW_is hfd (fun e => h13 (.inl e)) his.1 (fun k k1 k2 e => ?_)⟩⟩)⟩
    rw [btw_iff.2 ⟨k, k1, k2, e.2, e.1⟩] at his
    cases his.2
   ·rw [if_neg hr1] at his
    by_cases hr2 : r = 2
    ·rw [if_pos hr2] at his
     simp only [Bool.and_eq_true, beq_iff_eq, Bool.not_eq_true'] at his
     obtain ⟨⟨i1, i2⟩, i3⟩ := his
     have hm := (h.crew (j := f) (by omega) (by omega)).2.2 i1
     have ho : ownF l (l.getD d evz).g d = none := by
      cases ho : ownF l (l.getD d evz).g d with
      | none => rfl
      | some j =>
       obtain ⟨o1, o2, o3, o4⟩ := ownW_some ho
       have hg := (h.crew (j := j) (by omega) o2).1
       rcases Nat.lt_or_ge f j with hj | hj
       ·rw [btw_iff.2 ⟨j, hj, o1, o3, o2⟩] at i3
        cases i3
       ·have := th_mono (l := l) hj
        omega
     obtain ⟨j, hj⟩ := spW_ne hfd i1 i2
     obtain ⟨s1, s2, s3⟩ := spW_some hj
     have hm2 := (h.crew (j := j) (by omega) (by omega)).2.2 s2
     have hjf : j = f := by
      rcases Nat.lt_trichotomy j f with e | e | e
      ·have a := th_mono (l := l) (show j + 1 ≤ f from e)
       have b : thU l (j + 1) = thU l j + 1 := by rw [thU, if_pos s2]
       omega
      ·exact e
      ·have a := th_mono (l := l) (show f + 1 ≤ j from e)
       have b : thU l (f + 1) = thU l f + 1 := by rw [thU, if_pos i1]
       omega
     subst hjf
     exact .inl ⟨d, hd, .inl (mem_addA.2 ⟨fun e => h13 (.inr e), rfl, .inr ⟨hr2, ho, hj⟩⟩)⟩
    ·rw [if_neg hr2] at his
     by_cases hr4 : r = 4
     ·rw [if_pos hr4] at his
      simp only [Bool.and_eq_true, Bool.or_eq_true, beq_iff_eq, Bool.not_eq_true'] at his
      obtain ⟨⟨⟨i1, i2⟩, i3⟩, i4⟩ := his
      obtain ⟨j, hj⟩ := clW_ne hfd i1 i4.symm
      obtain ⟨s1, s2, s3⟩ := clW_some hj
      have once : ∀ a b, a < b → b < l.length → (l.getD a evz).kind = 5 → (l.getD b evz).kind = 5 → (l.getD a evz).chan = (l.getD b evz).chan → False := fun a b hab hb a5 b5 hc => by
       have hcl := (h.parts hb).2.2.2.2.2
       unfold closedR at hcl
       dsimp only at hcl
       rw [if_neg (by omega), if_neg (by omega), if_neg (by omega), ins_shut a5 hc b hab] at hcl
       cases hcl
      have hjf : j = f := by
       rcases Nat.lt_trichotomy j f with e | e | e
       ·exact absurd (once j f e (by omega) s2 i1 (s3.trans i4)) id
       ·exact e
       ·exact absurd (once f j e (by omega) i1 s2 (i4.symm.trans s3.symm)) id
      subst hjf
      exact .inl ⟨d, hd, .inr (mem_addC.2 ⟨rfl, hr4, i2, i3, hj⟩)⟩
     ·rw [if_neg hr4] at his
      obtain ⟨hc0, k, o, ho, hh⟩ := crs_iff.1 his
      obtain ⟨c, hc⟩ := Int.eq_ofNat_of_zero_le hc0
      rw [hc] at ho hh
      have hcm : c < makesR l l.length := by
       rcases Nat.lt_or_ge c (makesR l l.length) with e | e
       ·exact e
       ·have := h.done_new (c := (c : Int)) (s := false) (Nat.le_refl l.length) (by omega)
        unfold doneF at ho
        rw [this] at ho
        cases ho
      refine .inr ⟨c, hcm, k, (getD_of ho).1, mem_crsL.2 ⟨o, ho, hfd, ?_⟩⟩
      dsimp only
      rcases hh with ⟨a, b, p, e, g⟩ | ⟨a, b, e⟩
      ·exact .inl ⟨a, b, p, e, g⟩
      ·refine .inr ⟨a, ?_, b⟩
       rcases e with ⟨e1, e2⟩ | ⟨e1, e2⟩
       ·rw [if_pos e2, e1]
       ·rw [if_neg (by omega), e1]
def DifE (a b : Edg) : Prop := ¬ (a.dst = b.dst ∧ a.rule = b.rule)
theorem raw_dif (h : RtL l) : (rawE l).Pairwise DifE := by
 rw [raw_is h]
 have rc : ∀ {c k x}, x ∈ crsL (chU l l.length c) k → (x.rule = 3 ∨ x.rule = 5 ∨ x.rule = 6) ∧ (l.getD x.dst evz).chan = c := fun {c k x} hx => by
  obtain ⟨o, ho, _, hh⟩ := mem_crsL.1 hx
  rcases hh with ⟨a, b, _⟩ | ⟨_, a, b⟩
  ·exact ⟨.inl a, by rw [b]; exact (done_chan h ho).1⟩
  ·refine ⟨?_, (done_chan h b).1⟩
   split at a
   ·exact .inr (.inl a)
   ·exact .inr (.inr a)
 refine List.pairwise_append.2 ⟨?_, ?_, ?_⟩
 ·refine List.pairwise_flatMap.2 ⟨fun t _ => List.pairwise_append.2 ⟨?_, ?_, fun a ha b hb => ?_⟩, List.pairwise_lt_range.imp fun {t t'} htt a ha b hb => ?_⟩
  ·unfold addA
   split
   ·exact List.Pairwise.nil
   ·split
    ·exact List.pairwise_singleton _ _
    ·split
     ·exact List.pairwise_singleton _ _
     ·exact List.Pairwise.nil
  ·unfold addC
   split
   ·split
    ·exact List.pairwise_singleton _ _
    ·exact List.Pairwise.nil
   ·exact List.Pairwise.nil
  ·have := (mem_addA.1 ha).2.2
   have := (mem_addC.1 hb).2.1
   unfold DifE
   omega
  ·have h1 : a.dst = t := by
    rcases List.mem_append.1 ha with ha | ha
    ·exact (mem_addA.1 ha).2.1
    ·exact (mem_addC.1 ha).1
   have h2 : b.dst = t' := by
    rcases List.mem_append.1 hb with hb | hb
    ·exact (mem_addA.1 hb).2.1
    ·exact (mem_addC.1 hb).1
   unfold DifE
   omega
 ·refine List.pairwise_flatMap.2 ⟨fun c _ => List.pairwise_flatMap.2 ⟨fun k _ => ?_, List.pairwise_lt_range.imp fun {k k'} hkk a ha b hb => ?_⟩, List.pairwise_lt_range.imp fun {c c'} hcc a ha b hb => ?_⟩
  ·unfold crsL
   split
   ·exact List.Pairwise.nil
   ·refine List.pairwise_append.2 ⟨?_, ?_, fun a ha b hb => ?_⟩
    ·split
     ·exact List.Pairwise.nil
     ·unfold putO
      split
      ·exact List.pairwise_singleton _ _
      ·exact List.Pairwise.nil
    ·split
     ·exact List.Pairwise.nil
     ·unfold putO
      split
      ·exact List.pairwise_singleton _ _
      ·exact List.Pairwise.nil
    ·have h1 : a.rule = 3 := by
      split at ha
      ·cases ha
      ·rw [(mem_putO.1 ha).2]
     have h2 : b.rule = 5 ∨ b.rule = 6 := by
      split at hb
      ·cases hb
      ·rw [(mem_putO.1 hb).2]
       dsimp only
       split
       ·exact .inl rfl
       ·exact .inr rfl
     unfold DifE
     omega
  ·obtain ⟨o, ho, _, hh⟩ := mem_crsL.1 ha
   obtain ⟨o', ho', _, hh'⟩ := mem_crsL.1 hb
   rintro ⟨e1, e2⟩
   have r56 : ∀ r, r = (if sizeF l (c : Int) = 0 then 5 else 6) → r = 5 ∨ r = 6 := fun r hr => by
    split at hr
    ·exact .inl hr
    ·exact .inr hr
   rcases hh with ⟨a1, a2, _⟩ | ⟨_, a1, a2⟩
   ·rcases hh' with ⟨b1, b2, _⟩ | ⟨_, b1, b2⟩
    ·rw [← a2, e1, b2] at ho
     have := done_inj h ho ho'
     omega
    ·have := r56 _ b1
     omega
   ·rcases hh' with ⟨b1, b2, _⟩ | ⟨_, b1, b2⟩
    ·have := r56 _ a1
     omega
    ·rw [e1] at a2
     have := done_inj h a2 b2
     omega
  ·have h1 := (rc (List.mem_flatMap.1 ha).choose_spec.2).2
   have h2 := (rc (List.mem_flatMap.1 hb).choose_spec.2).2
   rintro ⟨e1, _⟩
   rw [e1, h2] at h1
   omega
 ·intro a ha b hb
  obtain ⟨t, _, ha⟩ := List.mem_flatMap.1 ha
  obtain ⟨c, _, hb⟩ := List.mem_flatMap.1 hb
  obtain ⟨k, _, hb⟩ := List.mem_flatMap.1 hb
  have h1 := (rc hb).1
  have h2 : a.rule = 1 ∨ a.rule = 2 ∨ a.rule = 4 := by
   rcases List.mem_append.1 ha with ha | ha
   ·rcases (mem_addA.1 ha).2.2 with e | e
    ·exact .inl e.1
    ·exact .inr (.inl e.1)
   ·exact .inr (.inr (mem_addC.1 ha).2.1)
  unfold DifE
  omega
end
section
variable {l t T : List Ev} {i j n : Nat} {r r' : RdrM} {e : Ev} {prev : Option Ev} {nx nx' : Option Int}
theorem prev_congr (h : ∀ k, k < i → l[k]? = t[k]?) : prevF l i = prevF t i := by
 unfold prevF
 split
 ·rfl
 ·exact h _ (by omega)
theorem st_congr : ∀ (i : Nat), (∀ k, k ≤ i → l[k]? = t[k]?) → stG l i = stG t i
 | 0, _ => rfl
 | i + 1, h => by
  rw [stG, stG, st_congr i (fun k hk => h k (by omega)), prev_congr (fun k hk => h k (by omega)), show nextF l i = nextF t i by unfold nextF; rw [h (i + 1) (Nat.le_refl _)], List.getD_eq_getElem?_getD, List.getD_eq_getElem?_getD, h i (by omega)]
theorem br_congr (h : ∀ k, k ≤ i + 1 → l[k]? = t[k]?) : brG l i = brG t i := by
 unfold brG
 rw [st_congr i (fun k hk => h k (by omega)), prev_congr (fun k hk => h k (by omega)), show nextF l i = nextF t i by unfold nextF; rw [h (i + 1) (Nat.le_refl _)], List.getD_eq_getElem?_getD, List.getD_eq_getElem?_getD, h i (by omega)]
def stS (r : RdrM) (prev : Option Ev) (e : Ev) : RdrM := (servedF (madeF (crewedF r e).2 e).2 prev e).2
theorem step_zero : (stepG r prev nx e).1 = 0 ↔ entF e = 0 ∧ (crewedF r e).1 = true ∧ (madeF (crewedF r e).2 e).1 = true ∧ (servedF (madeF (crewedF r e).2 e).2 prev e).1 = true ∧ (orderedF (stS r prev e) nx e).1 = true ∧ (closedF (orderedF (stS r prev e) nx e).2 e).1 = true := by
 unfold stepG stS
 repeat' split
 all_goals simp_all
theorem take_none {c : ChnM} (h : (takeF c nx e).1 = true) : (takeF c none e).1 = true ∧ (takeF c none e).2.closed = c.closed ∧ (takeF c nx e).2.closed = c.closed := by
 cases nx with
 | none =>
  refine ⟨h, ?_, ?_⟩ <;> (unfold takeF; dsimp only; split <;> rfl)
 | some v =>
  refine ⟨?_, ?_, ?_⟩
  ·revert h
   unfold takeF
   dsimp only
   cases hs : e.send with
   | true => simp
   | false =>
    simp only [if_neg (show ¬ (false = true) by decide)]
    by_cases hm : 0 ≤ e.mate
    ·simp only [if_pos hm]
     cases hb : c.buf with
     | nil => simp [hm]
     | cons b L => simp; omega
    ·simp only [if_neg hm]
     simp [hm]
  ·unfold takeF; dsimp only; split <;> rfl
  ·unfold takeF; dsimp only; split <;> rfl
theorem step_last (h : (stepG r prev nx e).1 = 0) : (stepG r prev none e).1 = 0 := by
 obtain ⟨h1, h2, h3, h4, h5, h6⟩ := step_zero.1 h
 refine step_zero.2 ⟨h1, h2, h3, h4, ?_⟩
 generalize stS r prev e = s at h5 h6
 unfold orderedF at h5 h6 ⊢
 cases hc : chanF s e.chan with
 | none =>
  rw [hc] at h6
  exact ⟨rfl, h6⟩
 | some c =>
  rw [hc] at h5 h6
  dsimp only at h5 h6 ⊢
  by_cases hk : e.kind ≠ 3 ∧ (e.kind ≠ 4 ∨ e.ok = false)
  ·rw [if_pos hk] at h6 ⊢
   exact ⟨rfl, h6⟩
  ·rw [if_neg hk] at h5 h6 ⊢
   dsimp only at h5 h6 ⊢
   obtain ⟨t1, t2, t3⟩ := take_none h5
   refine ⟨t1, ?_⟩
   have hc0 : 0 ≤ e.chan ∧ e.chan.toNat < s.chans.length := by
    unfold chanF at hc
    split at hc
    ·cases hc
    ·exact ⟨by omega, (List.getElem?_eq_some_iff.1 hc).1⟩
   have hset : ∀ d : ChnM, chanF { s with chans := s.chans.set e.chan.toNat d } e.chan = some d := by
    intro d
    unfold chanF
    rw [if_neg (by omega), List.getElem?_set, if_pos rfl, if_pos hc0.2]
   unfold closedF at h6 ⊢
   rw [hset] at h6 ⊢
   dsimp only at h6 ⊢
   have hkk : e.kind = 3 ∨ (e.kind = 4 ∧ e.ok = true) := by
    by_cases h3 : e.kind = 3
    ·exact .inl h3
    ·right
     refine ⟨?_, ?_⟩
     ·by_cases h4 : e.kind = 4
      ·exact h4
      ·exact absurd ⟨h3, .inl h4⟩ hk
     ·cases ho : e.ok with
      | true => rfl
      | false => exact absurd ⟨h3, .inr ho⟩ hk
   rw [if_neg (by omega)] at h6 ⊢
   by_cases hm : e.kind = 3 ∨ e.kind = 4 ∧ 0 ≤ e.mate
   ·rw [if_pos hm] at h6 ⊢
    rw [t3] at h6
    rw [t2]
    exact h6
   ·rw [if_neg hm]
    split
    ·rename_i h9
     rcases hkk with h | h
     ·omega
     ·rw [h.2] at h9
      cases h9.2
    ·rfl
theorem keep_take (hT : ∀ j, j < T.length → brG T j = 0) (hn : n ≤ T.length) : ∀ j, j < (T.take n).length → brG (T.take n) j = 0 := by
 intro j hj
 rw [List.length_take] at hj
 have hg : ∀ k, k < n → (T.take n)[k]? = T[k]? := fun k hk => by rw [List.getElem?_take, if_pos hk]
 rcases Nat.lt_or_ge (j + 1) n with h | h
 ·rw [br_congr (t := T) (fun k hk => hg k (by omega))]
  exact hT j (by omega)
 ·have hb := hT j (by omega)
  unfold brG at hb ⊢
  rw [st_congr (t := T) j (fun k hk => hg k (by omega)), prev_congr (t := T) (fun k hk => hg k (by omega)), show nextF (T.take n) j = none by unfold nextF; rw [List.getElem?_eq_none (by rw [List.length_take]; omega)]; rfl, List.getD_eq_getElem?_getD, hg j (by omega), ← List.getD_eq_getElem?_getD]
  exact step_last hb
theorem check_none (h : ∀ j, j < l.length → brG l j = 0) : checkG l = if 0 < l.length ∧ servesF (l.getD (l.length - 1) evz) = true then (4, l.length) else (0, 0) := by
 unfold checkG
 rw [scan_none h]
 rfl
end
section
variable {l : List Ev} {x y : Edg} {i j t k n : Nat}
theorem RtL.g (h : RtL l) : ∀ j, j < l.length → brG l j = 0 := fun j hj => by rw [br_same l j hj (fun i hi => h.b i (by omega))]; exact h.b j hj
theorem RtL.of_g (h : ∀ j, j < l.length → brG l j = 0) : RtL l := by
 have key : ∀ n, n ≤ l.length → ∀ j, j < n → brR l j = 0 := by
  intro n
  induction n with
  | zero => intro _ j hj; omega
  | succ n ih =>
   intro hn j hj
   have ih := ih (by omega)
   by_cases e : j = n
   ·subst e
    rw [← br_same l j (by omega) ih]
    exact h j (by omega)
   ·exact ih j (by omega)
 exact ⟨key _ (Nat.le_refl _)⟩
theorem right_iff : rightF l = true ↔ RtL l := by
 constructor
 ·intro hr
  refine RtL.of_g ?_
  have key : ∀ n, n ≤ l.length → ∀ j, j < n → brG l j = 0 := by
   intro n
   induction n with
   | zero => intro _ j hj; omega
   | succ n ih =>
    intro hn j hj
    have ih := ih (by omega)
    by_cases e : j = n
    ·subst e
     refine Classical.byContradiction fun hne => ?_
     have hs := scan_hit (br := brG l) (show j < l.length by omega) ih hne
     unfold rightF checkG at hr
     rw [hs] at hr
     simp only [endB, Bool.or_eq_true, Bool.and_eq_true, beq_iff_eq] at hr
     rcases hr with hr | ⟨_, hr⟩
     ·exact hne hr
     ·omega
    ·exact ih j (by omega)
  exact key _ (Nat.le_refl _)
 ·intro h
  unfold rightF
  rw [check_none h.g]
  split <;> simp
theorem RtL.take (h : RtL l) (hn : n ≤ l.length) : RtL (l.take n) := RtL.of_g (keep_take h.g hn)
theorem all_perm : (allE l).Perm (rawE l) := sortE_perm _
theorem mem_all (h : RtL l) : x ∈ allE l ↔ x.dst < l.length ∧ x.src < x.dst ∧ 1 ≤ x.rule ∧ x.rule ≤ 6 ∧ isF l x.src x.dst x.rule = true := by
 rw [all_perm.mem_iff]
 exact raw_mem h
theorem all_dif (h : RtL l) : (allE l).Pairwise DifE := (List.Perm.pairwise_iff (fun {a b} hab e => hab ⟨e.1.symm, e.2.symm⟩) all_perm).2 (raw_dif h)
theorem all_lt (h : RtL l) : (allE l).Pairwise (fun a b => ltE a b = true) := by
 refine ((sortE_sorted (rawE l)).and (all_dif h)).imp fun {a b} hab => ?_
 rcases ltE_total hab.1 with e | rfl
 ·exact e
 ·exact absurd ⟨rfl, rfl⟩ hab.2
theorem strict_eq : ∀ {L M : List Edg}, L.Pairwise (fun a b => ltE a b = true) → M.Pairwise (fun a b => ltE a b = true) → (∀ x, x ∈ L ↔ x ∈ M) → L = M
 | [], [], _, _, _ => rfl
 | [], y :: M, _, _, h => absurd ((h y).2 List.mem_cons_self) List.not_mem_nil
 | x :: L, [], _, _, h => absurd ((h x).1 List.mem_cons_self) List.not_mem_nil
 | x :: L, y :: M, h1, h2, h => by
  rw [List.pairwise_cons] at h1 h2
  have no : ∀ {a b : Edg}, ltE a b = true → ltE b a = true → False := fun {a b} e1 e2 => by
   have := ltE_trans e1 e2
   rw [ltE_irrefl] at this
   cases this
  have e : x = y := by
   rcases List.mem_cons.1 ((h x).1 List.mem_cons_self) with e | hx
   ·exact e
   ·rcases List.mem_cons.1 ((h y).2 List.mem_cons_self) with e | hy
    ·exact e.symm
    ·exact absurd (no (h2.1 x hx) (h1.1 y hy)) id
  subst e
  have ih := strict_eq h1.2 h2.2 (fun z => by
   constructor
   ·intro hz
    rcases List.mem_cons.1 ((h z).1 (List.mem_cons_of_mem _ hz)) with e | e
    ·subst e
     have := h1.1 z hz
     rw [ltE_irrefl] at this
     cases this
    ·exact e
   ·intro hz
    rcases List.mem_cons.1 ((h z).2 (List.mem_cons_of_mem _ hz)) with e | e
    ·subst e
     have := h2.1 z hz
     rw [ltE_irrefl] at this
     cases this
    ·exact e)
  rw [ih]
theorem mem_ref : x ∈ refE l ↔ x.dst < l.length ∧ x.src < x.dst ∧ 1 ≤ x.rule ∧ x.rule ≤ 6 ∧ isF l x.src x.dst x.rule = true := by
 obtain ⟨f, t, r⟩ := x
 unfold refE
 simp only [List.mem_flatMap, List.mem_range, List.mem_filterMap, Option.ite_none_right_eq_some, Option.some.injEq, Edg.mk.injEq]
 constructor
 ·rintro ⟨t', ht, f', hf, r', hr, hi, rfl, rfl, rfl⟩
  have : 1 ≤ r' ∧ r' ≤ 6 := by
   simp only [List.mem_cons, List.not_mem_nil, or_false] at hr
   omega
  exact ⟨ht, hf, this.1, this.2, hi⟩
 ·rintro ⟨ht, hf, h1, h6, hi⟩
  refine ⟨t, ht, f, hf, r, ?_, hi, rfl, rfl, rfl⟩
  simp only [List.mem_cons, List.not_mem_nil, or_false]
  omega
theorem ref_lt : (refE l).Pairwise (fun a b => ltE a b = true) := by
 unfold refE
 have inner : ∀ {f t : Nat} {b : Edg}, b ∈ [1, 2, 3, 4, 5, 6].filterMap (fun r => if isF l f t r = true then some (⟨f, t, r⟩ : Edg) else none) → b.src = f ∧ b.dst = t := fun {f t b} hb => by
  obtain ⟨r, _, hr⟩ := List.mem_filterMap.1 hb
  split at hr
  ·injection hr with hr
   subst hr
   exact ⟨rfl, rfl⟩
  ·cases hr
 refine List.pairwise_flatMap.2 ⟨fun t _ => List.pairwise_flatMap.2 ⟨fun f _ => ?_, List.pairwise_lt_range.imp fun {f f'} hff a ha b hb => ?_⟩, List.pairwise_lt_range.imp fun {t t'} htt a ha b hb => ?_⟩
 ·rw [List.pairwise_filterMap]
  refine (show [1, 2, 3, 4, 5, 6].Pairwise (· < ·) by decide).imp fun {r r'} hrr a ha b hb => ?_
  split at ha
  ·split at hb
   ·injection ha with ha
    injection hb with hb
    subst ha
    subst hb
    unfold ltE
    simp [hrr]
   ·cases hb
  ·cases ha
 ·obtain ⟨a1, a2⟩ := inner ha
  obtain ⟨b1, b2⟩ := inner hb
  unfold ltE
  simp only [decide_eq_true_eq]
  omega
 ·obtain ⟨f, _, ha⟩ := List.mem_flatMap.1 ha
  obtain ⟨f', _, hb⟩ := List.mem_flatMap.1 hb
  obtain ⟨a1, a2⟩ := inner ha
  obtain ⟨b1, b2⟩ := inner hb
  unfold ltE
  simp only [decide_eq_true_eq]
  omega
theorem all_ref (h : RtL l) : allE l = refE l := strict_eq (all_lt h) ref_lt fun x => (mem_all h).trans mem_ref.symm
def tellsF (e : Ev) : Bool := e.kind == 1 || e.kind == 3 || e.kind == 4 || e.kind == 5 || e.kind == 6
theorem all_tells (h : RtL l) (hx : x ∈ allE l) (h1 : 1 < x.rule) : tellsF (l.getD x.src evz) = true := by
 rw [all_perm.mem_iff, mem_raw h] at hx
 have of : ∀ e : Ev, e.kind = 1 ∨ e.kind = 3 ∨ e.kind = 4 ∨ e.kind = 5 ∨ e.kind = 6 → tellsF e = true := fun e he => by
  unfold tellsF
  simp only [Bool.or_eq_true, beq_iff_eq]
  omega
 refine of _ ?_
 rcases hx with ⟨t, ht, hx | hx⟩ | ⟨c, hc, k, hk, hx⟩
 ·obtain ⟨_, _, e⟩ := mem_addA.1 hx
  rcases e with ⟨e, _⟩ | ⟨_, _, e⟩
  ·omega
  ·exact .inl (spW_some e).2.1
 ·obtain ⟨_, _, _, _, e⟩ := mem_addC.1 hx
  exact .inr (.inr (.inr (.inl (clW_some e).2.1)))
 ·obtain ⟨o, ho, _, hh⟩ := mem_crsL.1 hx
  obtain ⟨jo, jo1, jo2⟩ := done_get h ho
  rcases hh with ⟨_, _, p, hp, e⟩ | ⟨e, _⟩
  ·obtain ⟨jp, jp1, jp2⟩ := done_get h hp
   have hb := (jp2.beg h jp1).2.1
   have hk := jp2.kind
   rw [e]
   rcases hb with hb | ⟨hb, _⟩
   ·omega
   ·rw [hb]; omega
  ·have hb := (jo2.beg h jo1).2.1
   have hk := jo2.kind
   rw [e]
   rcases hb with hb | ⟨hb, _⟩
   ·omega
   ·rw [hb]; omega
theorem take_getD (hi : i < n) : (l.take n).getD i evz = l.getD i evz := by
 rw [List.getD_eq_getElem?_getD, List.getD_eq_getElem?_getD, List.getElem?_take, if_pos hi]
theorem own_take {g : Int} : ∀ {i}, i ≤ n → ownF (l.take n) g i = ownF l g i
 | 0, _ => rfl
 | i + 1, hi => by rw [ownF, ownF, take_getD (by omega), own_take (by omega)]
theorem sp_take {g : Int} : ∀ {i}, i ≤ n → spF (l.take n) g i = spF l g i
 | 0, _ => rfl
 | i + 1, hi => by rw [spF, spF, take_getD (by omega), sp_take (by omega)]
theorem cl_take {c : Int} : ∀ {i}, i ≤ n → clF (l.take n) c i = clF l c i
 | 0, _ => rfl
 | i + 1, hi => by rw [clF, clF, take_getD (by omega), cl_take (by omega)]
theorem pk_take {g : Int} : ∀ {i}, i ≤ n → pkW (l.take n) g i = pkW l g i
 | 0, _ => rfl
 | i + 1, hi => by rw [pkW, pkW, take_getD (by omega), pk_take (by omega)]
theorem mkU_take {c : Int} : ∀ {i}, i ≤ n → mkU (l.take n) c i = mkU l c i
 | 0, _ => rfl
 | i + 1, hi => by rw [mkU, mkU, take_getD (by omega), mkU_take (by omega)]
theorem mkR_take : ∀ {i}, i ≤ n → makesR (l.take n) i = makesR l i
 | 0, _ => rfl
 | i + 1, hi => by rw [makesR, makesR, take_getD (by omega), mkR_take (by omega)]
theorem mkU_mono {c : Int} {v : Nat} : ∀ {i j}, i ≤ j → mkU l c i = some v → mkU l c j = some v
 | i, 0, hij, h => by
  obtain rfl : i = 0 := by omega
  exact h
 | i, j + 1, hij, h => by
  by_cases e : i = j + 1
  ·rw [← e]; exact h
  ·rw [mkU, mkU_mono (i := i) (j := j) (by omega) h]
theorem mkU_made (h : RtL l) {c : Nat} : ∀ {i}, i ≤ l.length → c < makesR l i → ∃ v, mkU l c i = some v
 | 0, _, hc => by cases hc
 | i + 1, hi, hc => by
  by_cases h2 : (l.getD i evz).kind = 2
  ·rw [makesR, if_pos h2] at hc
   by_cases e : c < makesR l i
   ·obtain ⟨v, hv⟩ := mkU_made h (by omega) e
    exact ⟨v, mkU_mono (by omega) hv⟩
   ·have hm := (h.made (j := i) (by omega)).1 h2
    rw [mkU, h.mk_new (by omega) (by omega)]
    dsimp only
    rw [if_pos ⟨h2, by omega⟩]
    exact ⟨_, rfl⟩
  ·rw [makesR, if_neg h2] at hc
   obtain ⟨v, hv⟩ := mkU_made h (by omega) hc
   exact ⟨v, mkU_mono (by omega) hv⟩
theorem doneO_pre {c : Int} {s : Bool} (hn : n ≤ l.length) (hi : i < n) : doneO (l.take n) c s i <+: doneO l c s i ∧ (i + 1 < n → doneO (l.take n) c s i = doneO l c s i) := by
 unfold doneO
 rw [take_getD hi, List.length_take, Nat.min_eq_left hn]
 split
 ·exact ⟨List.prefix_refl _, fun _ => rfl⟩
 ·split
  ·exact ⟨List.prefix_refl _, fun _ => rfl⟩
  ·by_cases hm : 0 ≤ (l.getD i evz).mate ∧ i + 1 < n
   ·rw [if_pos hm, if_pos ⟨hm.1, by omega⟩]
    exact ⟨List.prefix_refl _, fun _ => rfl⟩
   ·rw [if_neg hm]
    refine ⟨List.nil_prefix, fun h1 => ?_⟩
    rw [if_neg (fun e => hm ⟨e.1, h1⟩)]
theorem doneU_same {c : Int} {s : Bool} (hn : n ≤ l.length) : ∀ {i}, i < n → doneU (l.take n) c s i = doneU l c s i
 | 0, _ => rfl
 | i + 1, hi => by rw [doneU, doneU, doneU_same hn (by omega), (doneO_pre hn (by omega)).2 hi]
theorem doneU_up {c : Int} {s : Bool} : ∀ {i j}, i ≤ j → doneU l c s i <+: doneU l c s j
 | i, 0, hij => by
  obtain rfl : i = 0 := by omega
  exact List.prefix_refl _
 | i, j + 1, hij => by
  by_cases e : i = j + 1
  ·rw [e]; exact List.prefix_refl _
  ·exact (doneU_up (i := i) (j := j) (by omega)).trans (List.prefix_append _ _)
theorem doneF_pre {c : Int} {s : Bool} (hn : n ≤ l.length) : doneF (l.take n) c s <+: doneF l c s := by
 unfold doneF
 rw [List.length_take, Nat.min_eq_left hn]
 refine List.IsPrefix.trans ?_ (doneU_up hn)
 cases n with
 | zero => exact List.prefix_refl _
 | succ i =>
  rw [doneU, doneU, doneU_same hn (by omega)]
  obtain ⟨r, hr⟩ := (doneO_pre (c := c) (s := s) hn (Nat.lt_succ_self i)).1
  rw [← hr, ← List.append_assoc]
  exact List.prefix_append _ _
theorem pre_get {L M : List Nat} (h : L <+: M) {d : Nat} (hk : L[k]? = some d) : M[k]? = some d := by
 obtain ⟨r, rfl⟩ := h
 rw [List.getElem?_append_left (List.getElem?_eq_some_iff.1 hk).1]
 exact hk
theorem beg_take (hi : i < n) : begF (l.take n) i = begF l i := by
 unfold begF
 rw [take_getD hi, begK_is, begK_is, pk_take (by omega)]
theorem raw_take (h : RtL l) (hn : n ≤ l.length) (hx : x ∈ rawE (l.take n)) : x ∈ rawE l := by
 have h' := h.take hn
 have hl : (l.take n).length = n := by rw [List.length_take]; omega
 rw [mem_raw h'] at hx
 rw [mem_raw h]
 rw [hl] at hx
 rcases hx with ⟨t, ht, hx | hx⟩ | ⟨c, hc, k, hk, hx⟩
 ·refine .inl ⟨t, by omega, .inl ?_⟩
  rw [mem_addA] at hx ⊢
  rw [take_getD ht, own_take (by omega), sp_take (by omega)] at hx
  exact hx
 ·refine .inl ⟨t, by omega, .inr ?_⟩
  rw [mem_addC] at hx ⊢
  rw [take_getD ht, cl_take (by omega)] at hx
  exact hx
 ·rw [mkR_take (Nat.le_refl _)] at hc
  have hc2 : c < makesR l l.length := Nat.lt_of_lt_of_le hc (mk_mono hn)
  have hx2 : x ∈ crsL (chU (l.take n) (l.take n).length c) k := by rw [hl]; exact hx
  obtain ⟨o, ho, hfd, hh⟩ := mem_crsL.1 hx2
  have ho2 := pre_get (doneF_pre hn) ho
  have hon := (done_chan h' ho).2.1
  rw [hl] at hon
  have hsz : sizeF (l.take n) (c : Int) = sizeF l c := by
   rw [size_is, size_is, hl, mkU_take (Nat.le_refl _)]
   obtain ⟨v, hv⟩ := mkU_made h hn hc
   rw [hv, mkU_mono hn hv]
  refine .inr ⟨c, hc2, k, (getD_of ho2).1, mem_crsL.2 ⟨o, ho2, hfd, ?_⟩⟩
  rcases hh with ⟨a, b, p, hp, e⟩ | ⟨a, b, e⟩
  ·have hpn := (done_chan h' hp).2.1
   rw [hl] at hpn
   exact .inl ⟨a, b, p, pre_get (doneF_pre hn) hp, by rw [e, beg_take hpn]⟩
  ·rw [hsz] at b e
   exact .inr ⟨by rw [a, beg_take hon], b, pre_get (doneF_pre hn) e⟩
end
section
variable {l : List Ev} {x y : Edg} {i j t k n : Nat} {c : Int}
theorem doneU_len {s : Bool} : (doneU l c s (i + 1)).length = (doneU l c s i).length + (doneO l c s i).length := by rw [doneU, List.length_append]
def inL (l : List Ev) (i : Nat) (b : List Int) : List Int := if (l.getD i evz).kind = 3 then b ++ [(l.getD i evz).value] else if 0 ≤ (l.getD i evz).mate ∧ decide (i + 1 = l.length) = false then b ++ [(l.getD (i + 1) evz).value] else b
theorem ins_buf {s : InsM} (hc : (l.getD i evz).chan = c) (hk : ¬ ((l.getD i evz).kind ≠ 3 ∧ ((l.getD i evz).kind ≠ 4 ∨ (l.getD i evz).ok = false))) : (insStep l c i s).buf = (if (l.getD i evz).kind = 4 ∨ 0 ≤ (l.getD i evz).mate then (inL l i s.buf).tail else inL l i s.buf) ∧ ((insStep l c i s).right = true → ((l.getD i evz).kind = 4 ∨ 0 ≤ (l.getD i evz).mate) → inL l i s.buf = [] → 0 ≤ (l.getD i evz).mate ∧ i + 1 = l.length) := by
 unfold insStep
 dsimp only
 rw [if_neg (fun e => e hc), if_neg hk, show inL l i s.buf = (if (l.getD i evz).kind = 3 then s.buf ++ [(l.getD i evz).value] else if 0 ≤ (l.getD i evz).mate ∧ decide (i + 1 = l.length) = false then s.buf ++ [(l.getD (i + 1) evz).value] else s.buf) from rfl]
 generalize (if (l.getD i evz).kind = 3 then s.buf ++ [(l.getD i evz).value] else if 0 ≤ (l.getD i evz).mate ∧ decide (i + 1 = l.length) = false then s.buf ++ [(l.getD (i + 1) evz).value] else s.buf) = L
 by_cases ho : (l.getD i evz).kind = 4 ∨ 0 ≤ (l.getD i evz).mate
 ·rw [if_pos ho, if_pos ho]
  cases L with
  | nil =>
   refine ⟨rfl, fun hr _ _ => ?_⟩
   simp only [Bool.and_eq_true, decide_eq_true_eq] at hr
   exact hr.1
  | cons v L => exact ⟨rfl, fun _ _ e => by cases e⟩
 ·rw [if_neg ho, if_neg ho]
  exact ⟨rfl, fun _ e => absurd e ho⟩
theorem bal_step (h : RtL l) (hi : i < l.length) (hb : (doneU l c true i).length = (doneU l c false i).length + (insR l c i).buf.length) (hlast : i + 1 < l.length ∨ ((l.getD i evz).kind = 4 ∧ (l.getD i evz).mate < 0)) :
  (doneU l c true (i + 1)).length = (doneU l c false (i + 1)).length + (insR l c (i + 1)).buf.length := by
 obtain ⟨hr, _, _, _, ho, _⟩ := h.parts hi
 rw [doneU_len, doneU_len]
 have hins : insR l c (i + 1) = insStep l c i (insR l c i) := rfl
 unfold orderedR at ho
 dsimp only at ho
 unfold doneO
 by_cases hc : (l.getD i evz).chan = c
 ·by_cases hk : (l.getD i evz).kind ≠ 3 ∧ ((l.getD i evz).kind ≠ 4 ∨ (l.getD i evz).ok = false)
  ·have : (insR l c (i + 1)).buf = (insR l c i).buf := by
    rw [hins]
    unfold insStep
    dsimp only
    rw [if_neg (fun e => e hc), if_pos hk]
   rw [this, if_pos (.inr hk), if_pos (.inr hk)]
   exact hb
  ·rw [if_neg hk, hc, hins] at ho
   rw [hins]
   obtain ⟨b1, b2⟩ := ins_buf (s := insR l c i) hc hk
   have b2 := b2 ho
   have hnn : ¬ ((l.getD i evz).chan ≠ c ∨ ((l.getD i evz).kind ≠ 3 ∧ ((l.getD i evz).kind ≠ 4 ∨ (l.getD i evz).ok = false))) := fun e => e.elim (fun e => e hc) hk
   rw [if_neg hnn, if_neg hnn, b1]
   clear b1 ho
   have l0 : ∀ L : List Int, L.tail.length = L.length - 1 := fun L => List.length_tail
   by_cases h3 : (l.getD i evz).kind = 3
   ·have hl1 : i + 1 < l.length := hlast.resolve_right (fun e => by omega)
    have e1 : (inL l i (insR l c i).buf).length = (insR l c i).buf.length + 1 := by
     unfold inL
     rw [if_pos h3, List.length_append]
     rfl
    rw [hr.s3 h3, if_pos rfl, if_neg (show ¬ (true = false) by decide)]
    by_cases hm : 0 ≤ (l.getD i evz).mate
    ·rw [if_pos (show 0 ≤ (l.getD i evz).mate ∧ i + 1 < l.length from ⟨hm, hl1⟩), if_pos (show (l.getD i evz).kind = 4 ∨ 0 ≤ (l.getD i evz).mate from .inr hm), l0, e1]
     simp only [List.length_cons, List.length_nil]
     omega
    ·rw [if_neg (show ¬ (0 ≤ (l.getD i evz).mate ∧ i + 1 < l.length) from fun e => hm e.1), if_neg (show ¬ ((l.getD i evz).kind = 4 ∨ 0 ≤ (l.getD i evz).mate) from fun e => by omega), e1]
     simp only [List.length_cons, List.length_nil]
     omega
   ·have h4 : (l.getD i evz).kind = 4 := Classical.byContradiction fun e => hk ⟨h3, .inl e⟩
    rw [hr.s4 h4, if_neg (show ¬ (false = true) by decide), if_pos (show false = false from rfl), if_pos (show (l.getD i evz).kind = 4 ∨ 0 ≤ (l.getD i evz).mate from .inl h4), l0]
    by_cases hm : 0 ≤ (l.getD i evz).mate
    ·have hl1 : i + 1 < l.length := hlast.resolve_right (fun e => by omega)
     have e1 : (inL l i (insR l c i).buf).length = (insR l c i).buf.length + 1 := by
      unfold inL
      rw [if_neg h3, if_pos ⟨hm, decide_eq_false (by omega)⟩, List.length_append]
      rfl
     rw [if_pos (show 0 ≤ (l.getD i evz).mate ∧ i + 1 < l.length from ⟨hm, hl1⟩), e1]
     simp only [List.length_cons, List.length_nil]
     omega
    ·have e1 : inL l i (insR l c i).buf = (insR l c i).buf := by
      unfold inL
      rw [if_neg h3, if_neg (fun e => hm e.1)]
     have hne : (insR l c i).buf ≠ [] := fun e => hm (b2 (.inl h4) (by rw [e1, e])).1
     have hpos := List.length_pos_iff.2 hne
     rw [if_neg (show ¬ (0 ≤ (l.getD i evz).mate ∧ i + 1 < l.length) from fun e => hm e.1), e1]
     simp only [List.length_cons, List.length_nil]
     omega
 ·have : insR l c (i + 1) = insR l c i := by
   rw [hins]
   unfold insStep
   dsimp only
   rw [if_pos hc]
  rw [this, if_pos (.inl hc), if_pos (.inl hc)]
  exact hb
theorem bal (h : RtL l) : ∀ {i}, i < l.length → (doneU l c true i).length = (doneU l c false i).length + (insR l c i).buf.length
 | 0, _ => rfl
 | i + 1, hi => bal_step h (by omega) (bal h (by omega)) (.inl hi)
end
end Go.Proofs.YtoamjodmidbmbaaGreatDoor
namespace Go.Proofs.YtoamjodmidbmbaaGreatDoor
open Go.RowKit
set_option maxRecDepth 100000
theorem madeFix {w : World} {F : List Piece} {crv : Value} {mb b : Nat} {A : Piece} {ps : List Nat} {cs : List ChnM} {x : ChnM} {crew : List (Bool × Bool)} (hl : ps.length = cs.length)
  (H : SL w (A :: Slc 237 2 crv crew.length (crewC crew) :: MapP 3 mb (if (chMap ps (cs.length : Int)).isSome then cs.length else cs.length + 1) (upd (chMap ps) (cs.length : Int) (some (.pointer (some ⟨b, 0, none⟩)))) :: chsP (ps ++ [b]) (cs ++ [x]) :: F)) :
  SL w (A :: Slc 237 2 crv crew.length (crewC crew) :: MapP 3 mb (cs ++ [x]).length (chMap (ps ++ [b])) :: chsP (ps ++ [b]) (cs ++ [x]) :: F) := by
 rw [← hl, chMap_new, chMap_snoc, hl] at H
 rw [List.length_append, List.length_singleton]
 exact H
theorem g_made {w : World} {F : List Piece} {rb n : Nat} {lv : Value} {at_ : Int} {r : RdrM} {e : Ev} (B : EvB e) (hs : Sized n r) (hn : n < 1000000) (H : SL w (RdrP rb lv at_ r :: F)) :
  Calls Tryz.prog 149 #[.pointer (some ⟨rb, 0, none⟩), e.agg] w fun o w' => o = .returned (.bool (madeF r e).1) ∧ SL w' (RdrP rb lv at_ (madeF r e).2 :: F) := by
 obtain ⟨crv, mb, ps, hl, H⟩ := RdrP.iff.1 H
 obtain ⟨cr, chans, c, over⟩ := r
 obtain ⟨kind, g, chan, case_, value, mate, send, ok⟩ := e
 dsimp only at hl H hs
 have hcl := hs.chans
 dsimp only at hcl
 by_cases h2 : kind = 2
 ·subst h2
  refine calls_d (args := [_, _]) Tryz.func149 rfl ?_
  refine ⟨Nw.as #[.int .i64 2, .int .i64 g, .int .i64 chan, .int .i64 case_, .int .i64 value, .int .i64 mate, .bool send, .bool ok] 53 rfl H fun b3 w H => ?_⟩
  refine ⟨H.ldi 0 rfl (v := .int .i64 2) rfl ?_⟩
  refine BB.yes rfl (Cn.yes (⟨Drw.of [(0, true), (1, true), (2, true), (3, true), (4, true), (5, true), (6, true), (7, true)] (by kernel_rfl) mixed (fun w => SL w _) H.drew ?_⟩))
  replace H := H.drew
  refine LdC.i 0 rfl (v := .int .i64 chan) rfl (LdC.i 1 rfl (v := .map (some mb)) rfl (MnC.mapLen 3 rfl (.tmp 13) 169 239 (by rfl) (by kernel_rfl) (by rfl) ?_))
  refine BB.vr fun q1 e1 => ?_
  cases q1
  ·have h1 := bne_eq_false_iff_eq.1 e1
   refine Cn.no (⟨Drw.of [(0, true), (1, true), (2, true), (3, true), (4, true), (5, true), (6, true), (7, true), (8, true), (9, false), (10, false)] (by kernel_rfl) mixed (fun w => SL w _) H.drew ?_⟩)
   replace H := H.drew
   refine LdC.i 1 rfl (v := .map (some mb)) rfl (LdC.i 0 rfl (v := .int .i64 chan) rfl (LdC.i 0 rfl (v := .int .i64 value) rfl (MnC.pure (.agg #[.int .i64 value, .slice none 0 0, .bool false]) (fun _ => by kernel_rfl) ?_)))
   refine Nw.as #[.int .i64 value, .slice none 0 0, .bool false] 241 rfl H fun b25 w H => ?_
   refine ⟨.inr H.tl, ?_⟩
   refine Mn.mapSet H.up4 (by omega) (.tmp 19) (.tmp 21) (.tmp 25) 169 239 (by rfl) (by kernel_rfl) (by kernel_rfl) chan (key_wf (by have := B.chan; dsimp only at this; omega) (by have := B.chan; dsimp only at this; omega)) (.pointer (some ⟨b25, 0, none⟩)) (by rfl) (by rfl) (by rfl) fun w H => ?_
   refine ⟨.inl rfl, ?_⟩
   refine ⟨ret1 (.bool true) rfl (by rfl) ?_⟩
   subst h1
   have hc : madeF ⟨cr, chans, c, over⟩ ⟨2, g, ↑chans.length, case_, value, mate, send, ok⟩ = (true, ⟨cr, chans ++ [⟨value, [], false⟩], c, over⟩) := by simp [madeF, *]
   rw [hc]
   have q := H.pi [1, 5, 3, 4, 0] 6
   simp only [pl, nth, drL] at q
   have q2 := chs_snoc hl (y := ⟨value, [], false⟩) ((SL.quNil _ 1 q).up1)
   have q3 := q2.pi [1, 2, 3, 0] 4
   simp only [pl, nth, drL] at q3
   exact ⟨rfl, RdrP.iff.2 ⟨crv, mb, ps ++ [b25], by simp [hl], madeFix hl q3⟩⟩
  have h1 := bne_iff_ne.1 e1
  refine Cn.yes (⟨ret1 (.bool false) rfl (by rfl) ?_⟩)
  have hc : madeF ⟨cr, chans, c, over⟩ ⟨2, g, chan, case_, value, mate, send, ok⟩ = (false, ⟨cr, chans, c, over⟩) := by simp [madeF, *]
  rw [hc]
  exact ⟨rfl, RdrP.iff.2 ⟨crv, mb, ps, hl, H.tl⟩⟩
 ·cases hf : chanF ⟨cr, chans, c, over⟩ chan with
  | none =>
   have hm := chMap_none hl (r := ⟨cr, chans, c, over⟩) rfl hf
   refine calls_d (args := [_, _]) Tryz.func149 rfl ?_
   refine ⟨Nw.as #[.int .i64 kind, .int .i64 g, .int .i64 chan, .int .i64 case_, .int .i64 value, .int .i64 mate, .bool send, .bool ok] 53 rfl H fun b3 w H => ?_⟩
   refine ⟨H.ldi 0 rfl (v := .int .i64 kind) rfl ?_⟩
   refine BB.no (beq_eq_false_iff_ne.2 h2) (Cn.no (⟨Drw.of [(0, true), (1, true), (2, true), (3, true), (4, true), (5, true), (6, true), (7, true), (8, true), (9, true), (10, true), (11, true), (12, true), (13, true)] (by kernel_rfl) mixed (fun w => SL w _) H.drew ?_⟩))
   replace H := H.drew
   refine LdC.i 0 rfl (v := .int .i64 chan) rfl (BB.vr fun q1 e1 => ?_)
   cases q1
   ·have h1 := neq_of e1
    refine LdC.i 1 rfl (v := .map (some mb)) rfl (LdC.i 0 rfl (v := .int .i64 chan) rfl (MnC.lookV 3 rfl (.tmp 33) (.tmp 35) 169 239 (by rfl) (by kernel_rfl) (by kernel_rfl) (z := .pointer none) (fun _ => by kernel_rfl) chan (key_wf (by have := B.chan; dsimp only at this; omega) (by have := B.chan; dsimp only at this; omega)) (by rfl) (by rfl) (.pointer none) (by rw [hm]; rfl) ?_))
    refine BB.no rfl (ret1 (.bool false) rfl (by rfl) ?_)
    have hc : madeF ⟨cr, chans, c, over⟩ ⟨kind, g, chan, case_, value, mate, send, ok⟩ = (false, ⟨cr, chans, c, over⟩) := by simp [madeF, *]
    rw [hc]
    exact ⟨rfl, RdrP.iff.2 ⟨crv, mb, ps, hl, H.tl⟩⟩
   have h1 := eq_of_beq e1
   subst h1
   refine ret1 (.bool true) rfl (by rfl) ?_
   have hc : madeF ⟨cr, chans, c, over⟩ ⟨kind, g, (-1), case_, value, mate, send, ok⟩ = (true, ⟨cr, chans, c, over⟩) := by simp [madeF, *]
   rw [hc]
   exact ⟨rfl, RdrP.iff.2 ⟨crv, mb, ps, hl, H.tl⟩⟩
  | some x =>
   obtain ⟨k, p, hk, hx, hp, hm⟩ := chMap_some hl (r := ⟨cr, chans, c, over⟩) rfl hf
   clear hk
   refine calls_d (args := [_, _]) Tryz.func149 rfl ?_
   refine ⟨Nw.as #[.int .i64 kind, .int .i64 g, .int .i64 chan, .int .i64 case_, .int .i64 value, .int .i64 mate, .bool send, .bool ok] 53 rfl H fun b3 w H => ?_⟩
   refine ⟨H.ldi 0 rfl (v := .int .i64 kind) rfl ?_⟩
   refine BB.no (beq_eq_false_iff_ne.2 h2) (Cn.no (⟨Drw.of [(0, true), (1, true), (2, true), (3, true), (4, true), (5, true), (6, true), (7, true), (8, true), (9, true), (10, true), (11, true), (12, true), (13, true)] (by kernel_rfl) mixed (fun w => SL w _) H.drew ?_⟩))
   replace H := H.drew
   refine LdC.i 0 rfl (v := .int .i64 chan) rfl (BB.vr fun q1 e1 => ?_)
   cases q1
   ·have h1 := neq_of e1
    refine LdC.i 1 rfl (v := .map (some mb)) rfl (LdC.i 0 rfl (v := .int .i64 chan) rfl (MnC.lookV 3 rfl (.tmp 33) (.tmp 35) 169 239 (by rfl) (by kernel_rfl) (by kernel_rfl) (z := .pointer none) (fun _ => by kernel_rfl) chan (key_wf (by have := B.chan; dsimp only at this; omega) (by have := B.chan; dsimp only at this; omega)) (by rfl) (by rfl) (.pointer (some ⟨p, 0, none⟩)) (by rw [hm]; rfl) ?_))
    refine BB.yes rfl (ret1 (.bool true) rfl (by rfl) ?_)
    have hc : madeF ⟨cr, chans, c, over⟩ ⟨kind, g, chan, case_, value, mate, send, ok⟩ = (true, ⟨cr, chans, c, over⟩) := by simp [madeF, *]
    rw [hc]
    exact ⟨rfl, RdrP.iff.2 ⟨crv, mb, ps, hl, H.tl⟩⟩
   have h1 := eq_of_beq e1
   subst h1
   refine ret1 (.bool true) rfl (by rfl) ?_
   have hc : madeF ⟨cr, chans, c, over⟩ ⟨kind, g, (-1), case_, value, mate, send, ok⟩ = (true, ⟨cr, chans, c, over⟩) := by simp [madeF, *]
   rw [hc]
   exact ⟨rfl, RdrP.iff.2 ⟨crv, mb, ps, hl, H.tl⟩⟩
end Go.Proofs.YtoamjodmidbmbaaGreatDoor
