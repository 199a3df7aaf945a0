/- Texts of the proof, several in one file: GaugeS, GaugeT, GaugeU, GaugeV, GaugeW0, GaugeW, GaugeX0, GaugeX, GaugeY, GaugeZ0, EntryA, EntryC, EntryD, GaugeZ, EntryF. -/
import Derived.Test.YtchkaaeoffmjnaaGreatDoorE14
import Derived.Test.YtchkaaeoffmjnaaGreatDoorE03
import Derived.Deep.RegionHeld3
import Derived.Deep.DeepCutAuto
import Derived.Deep.CutBlock
namespace Go.Proofs.YtchkaaeoffmjnaaGreatDoor
set_option linter.unusedVariables false
set_option linter.unusedSimpArgs false
section
variable {l : List Ev} {i : Nat} {r r' : RdrM}
structure CrewInv (l : List Ev) (i : Nat) (r : RdrM) : Prop where
 over : ∀ g, r.over = (goR l g i).over
 there : ∀ g, (goR l g i).there = r.crew.length
 crew : r.over = false → ∀ g : Nat, g < r.crew.length → r.crew[g]? = some ((goR l g i).waits, (goR l g i).exited)
 new : ∀ g : Nat, r.crew.length ≤ g → (goR l g i).waits = false ∧ (goR l g i).exited = false
theorem crew_step (h : InvG l i r) (hr : Rt (l.getD i evz)) (hp : (crewedF r (l.getD i evz)).1 = true) : CrewInv l (i + 1) (crewedF r (l.getD i evz)).2 := by
  have hg : ∀ g, goR l g (i + 1) = ⟨if (l.getD i evz).kind = 1 then (goR l g i).there + 1 else (goR l g i).there,
     if (l.getD i evz).g ≠ g ∨ (l.getD i evz).kind = 13 then (goR l g i).waits else if (l.getD i evz).kind = 7 then false else if (l.getD i evz).kind = 6 then true else (goR l g i).waits,
     if (l.getD i evz).g ≠ g ∨ (l.getD i evz).kind = 13 then (goR l g i).exited else ((goR l g i).exited || (l.getD i evz).kind == 11),
     (goR l g i).over || (l.getD i evz).kind == 12⟩ := fun g => rfl
  obtain ⟨e, he⟩ : ∃ e, l.getD i evz = e := ⟨_, rfl⟩
  rw [he] at hr hp ⊢
  simp only [he] at hg
  unfold crewedF at hp ⊢
  by_cases ho : r.over = true
  · rw [if_pos ho] at hp
    cases hp
  rw [if_neg ho] at hp ⊢
  have ho' : r.over = false := by simpa using ho
  by_cases h13 : e.kind = 13
  · rw [if_pos h13]
    constructor
    · intro g
      rw [hg g]
      dsimp only
      rw [h13, h.over g]
      simp
    · intro g
      rw [hg g]
      dsimp only
      rw [if_neg (by omega)]
      exact h.there g
    · intro _ g hgl
      rw [hg g]
      dsimp only
      rw [if_pos (.inr h13), if_pos (.inr h13)]
      exact h.crew ho' g hgl
    · intro g hgl
      rw [hg g]
      dsimp only
      rw [if_pos (.inr h13), if_pos (.inr h13)]
      exact h.new g hgl
  · rw [if_neg h13] at hp ⊢
    have heg := hr.g h13
    obtain ⟨n, hn⟩ : ∃ n : Nat, e.g = n := ⟨e.g.toNat, by omega⟩
    rw [hn, Int.toNat_natCast] at hp ⊢
    by_cases hlt : n < r.crew.length
    · rw [h.crew ho' n hlt] at hp ⊢
      dsimp only at hp ⊢
      by_cases hx : (goR l n i).exited = true
      · rw [if_pos hx] at hp
        cases hp
      rw [if_neg hx] at hp ⊢
      have hx' : (goR l n i).exited = false := by simpa using hx
      by_cases hw : e.kind ≠ 12 ∧ (goR l n i).waits ≠ (e.kind == 7)
      · rw [if_pos hw] at hp
        cases hp
      rw [if_neg hw] at hp ⊢
      have hno : ∀ g : Nat, g ≠ n → (goR l g (i + 1)).waits = (goR l g i).waits ∧ (goR l g (i + 1)).exited = (goR l g i).exited := fun g hgn => by
        rw [hg g]
        have : e.g ≠ (g : Int) ∨ e.kind = 13 := .inl (by omega)
        dsimp only
        rw [if_pos this, if_pos this]
        exact ⟨rfl, rfl⟩
      have hown : e.kind ≠ 12 → (goR l n (i + 1)).waits = (e.kind == 6) ∧ (goR l n (i + 1)).exited = (e.kind == 11) := fun h12 => by
        rw [hg n]
        have : ¬ (e.g ≠ (n : Int) ∨ e.kind = 13) := by omega
        dsimp only
        rw [if_neg this, if_neg this, hx', Bool.false_or]
        refine ⟨?_, rfl⟩
        have hwe : (goR l n i).waits = (e.kind == 7) := by
          rcases Decidable.em ((goR l n i).waits = (e.kind == 7)) with h1 | h1
          · exact h1
          · exact absurd ⟨h12, h1⟩ hw
        by_cases h7 : e.kind = 7
        · rw [if_pos h7, h7]
          rfl
        · rw [if_neg h7]
          by_cases h6 : e.kind = 6
          · rw [if_pos h6, h6]
            rfl
          · rw [if_neg h6, hwe]
            rw [beq_eq_false_iff_ne.2 h7, beq_eq_false_iff_ne.2 h6]
      have hover : ∀ g, (e.kind == 12) = (goR l g (i + 1)).over := fun g => by
        rw [hg g]
        dsimp only
        rw [← h.over g, ho', Bool.false_or]
      by_cases h1 : e.kind = 1
      · rw [if_pos h1] at hp ⊢
        by_cases hm : e.mate ≠ r.crew.length
        · rw [if_pos hm] at hp
          cases hp
        rw [if_neg hm]
        constructor
        · exact hover
        · intro g
          rw [hg g]
          dsimp only
          rw [if_pos h1, h.there g]
          simp
        · intro _ g hgl
          dsimp only at hgl ⊢
          simp only [List.length_append, List.length_set, List.length_singleton] at hgl
          by_cases hgn : g = n
          · subst hgn
            rw [List.getElem?_append_left (by simpa using hlt), List.getElem?_set_self hlt]
            obtain ⟨w1, w2⟩ := hown (by omega)
            rw [w1, w2]
          · obtain ⟨w1, w2⟩ := hno g hgn
            rw [w1, w2]
            by_cases hgl' : g < r.crew.length
            · rw [List.getElem?_append_left (by simpa using hgl'), List.getElem?_set_ne (by omega)]
              exact h.crew ho' g hgl'
            · have : g = r.crew.length := by omega
              subst this
              rw [List.getElem?_append_right (by simp)]
              obtain ⟨v1, v2⟩ := h.new r.crew.length (Nat.le_refl _)
              rw [v1, v2]
              simp
        · intro g hgl
          dsimp only at hgl
          simp only [List.length_append, List.length_set, List.length_singleton] at hgl
          obtain ⟨w1, w2⟩ := hno g (by omega)
          rw [w1, w2]
          exact h.new g (by omega)
      · rw [if_neg h1] at hp ⊢
        constructor
        · exact hover
        · intro g
          rw [hg g]
          dsimp only
          rw [if_neg h1, h.there g]
          simp
        · intro hov g hgl
          dsimp only at hov hgl ⊢
          simp only [List.length_set] at hgl
          have h12 : e.kind ≠ 12 := by
            intro h12
            rw [h12] at hov
            cases hov
          by_cases hgn : g = n
          · subst hgn
            rw [List.getElem?_set_self hlt]
            obtain ⟨w1, w2⟩ := hown h12
            rw [w1, w2]
          · obtain ⟨w1, w2⟩ := hno g hgn
            rw [w1, w2, List.getElem?_set_ne (by omega)]
            exact h.crew ho' g hgl
        · intro g hgl
          dsimp only at hgl
          simp only [List.length_set] at hgl
          obtain ⟨w1, w2⟩ := hno g (by omega)
          rw [w1, w2]
          exact h.new g hgl
    · rw [List.getElem?_eq_none (by omega)] at hp
      cases hp
end
end Go.Proofs.YtchkaaeoffmjnaaGreatDoor
namespace Go.Proofs.YtchkaaeoffmjnaaGreatDoor
set_option linter.unusedVariables false
set_option linter.unusedSimpArgs false
section
variable {l : List Ev} {i : Nat} {r r1 : RdrM}
structure ChanInv (l : List Ev) (i : Nat) (L : List ChnM) : Prop where
 makes : L.length = makesR l i
 ins : ∀ c : Nat, c < L.length → L[c]? = some ⟨(insR l c i).size, (insR l c i).buf, (insR l c i).closed⟩
 insNew : ∀ c : Nat, L.length ≤ c → (insR l c i).buf = [] ∧ (insR l c i).closed = false
theorem closed_keeps (r : RdrM) (e : Ev) : (closedF r e).2.closer = r.closer ∧ (closedF r e).2.crew = r.crew ∧ (closedF r e).2.over = r.over ∧ (e.kind ≠ 5 → (closedF r e).2 = r) := by
 unfold closedF
 split
 ·exact ⟨rfl, rfl, rfl, fun _ => rfl⟩
 ·split
  ·rename_i h5
   exact ⟨rfl, rfl, rfl, fun h => absurd h5 h⟩
  ·split
   ·exact ⟨rfl, rfl, rfl, fun _ => rfl⟩
   ·split <;> exact ⟨rfl, rfl, rfl, fun _ => rfl⟩
theorem ins_other {c : Int} (hc : (l.getD i evz).chan ≠ c) : insR l c (i + 1) = insR l c i := by
 show insStep l c i (insR l c i) = _
 unfold insStep
 dsimp only
 rw [if_pos hc]
theorem makes_keep (h2 : (l.getD i evz).kind ≠ 2) : makesR l (i + 1) = makesR l i := by
 show (if (l.getD i evz).kind = 2 then makesR l i + 1 else makesR l i) = _
 rw [if_neg h2]
theorem chan_step (h : InvG l i r) (hi : i < l.length) (hr : Rt (l.getD i evz)) (hch : r1.chans = r.chans) {p : Option Ev} (hm : madeR l i = true) :
  ChanInv l (i + 1) (closedF (orderedF (servedF (madeF r1 (l.getD i evz)).2 p (l.getD i evz)).2 (nextF l i) (l.getD i evz)).2 (l.getD i evz)).2.chans := by
 have hmk := made_keeps r1 (l.getD i evz)
 have hsk := served_keeps (madeF r1 (l.getD i evz)).2 p (l.getD i evz)
 have hio := @ins_other l i
 have hts := take_same hi (insR l (l.getD i evz).chan i)
 have hst : insR l (l.getD i evz).chan (i + 1) = insStep l (l.getD i evz).chan i (insR l (l.getD i evz).chan i) := rfl
 have hmR := hm
 unfold madeR at hm
 by_cases h2 : (l.getD i evz).kind = 2
 ·have hmm : makesR l (i + 1) = makesR l i + 1 := by
   show (if (l.getD i evz).kind = 2 then makesR l i + 1 else makesR l i) = _
   rw [if_pos h2]
  rw [if_pos h2] at hm
  have hc : (l.getD i evz).chan = (makesR l i : Int) := by simpa using hm
  have e1 : (madeF r1 (l.getD i evz)).2.chans = r.chans ++ [⟨(l.getD i evz).value, [], false⟩] := by
   unfold madeF
   rw [if_pos h2, if_neg (by rw [hch, h.makes]; simpa using hc)]
   dsimp only
   rw [hch]
  obtain ⟨r2, hr2⟩ : ∃ r2, (servedF (madeF r1 (l.getD i evz)).2 p (l.getD i evz)).2 = r2 := ⟨_, rfl⟩
  rw [hr2] at hsk ⊢
  rw [(ordered_keeps r2 (nextF l i) (l.getD i evz)).2.2.2 (by omega) (.inl (by omega)), (closed_keeps r2 (l.getD i evz)).2.2.2 (by omega), hsk, e1]
  have hlen := h.makes
  constructor
  ·simp [hmm, hlen]
  ·intro c hcl
   simp only [List.length_append, List.length_singleton] at hcl
   by_cases hcc : c < r.chans.length
   ·rw [List.getElem?_append_left hcc, hio (by omega)]
    exact h.ins c hcc
   ·have : c = makesR l i := by omega
    subst this
    rw [List.getElem?_append_right (by omega), hlen, Nat.sub_self]
    rw [← hc, hst]
    obtain ⟨v1, v2⟩ := h.insNew (makesR l i) (by omega)
    rw [← hc] at v1 v2
    unfold insStep
    dsimp only
    have a2 : (l.getD i evz).kind ≠ 3 ∧ ((l.getD i evz).kind ≠ 4 ∨ (l.getD i evz).ok = false) := ⟨by omega, .inl (by omega)⟩
    have a3 : ¬ (l.getD i evz).kind = 5 := by omega
    rw [if_neg (fun hh => hh rfl), if_pos a2]
    dsimp only
    rw [if_pos h2, if_neg a3, v1, v2]
    rfl
  ·intro c hcl
   simp only [List.length_append, List.length_singleton] at hcl
   rw [hio (by omega)]
   exact h.insNew c (by omega)
 ·have hmm : makesR l (i + 1) = makesR l i := makes_keep h2
  rw [if_neg h2] at hm
  have hc : (l.getD i evz).chan < (makesR l i : Int) := by simpa using hm
  have hc1 := hr.c0
  obtain ⟨r2, hr2⟩ : ∃ r2, (servedF (madeF r1 (l.getD i evz)).2 p (l.getD i evz)).2 = r2 := ⟨_, rfl⟩
  rw [hr2] at hsk ⊢
  have e2 : r2.chans = r.chans := by rw [hsk, hmk.2 h2, hch]
  have hlen := h.makes
  by_cases h5 : (l.getD i evz).kind = 5
  ·have hc0 := hr.cc (.inr (.inr (.inr (.inl h5))))
   obtain ⟨n, hn⟩ : ∃ n : Nat, (l.getD i evz).chan = n := ⟨(l.getD i evz).chan.toNat, by omega⟩
   rw [(ordered_keeps r2 (nextF l i) (l.getD i evz)).2.2.2 (by omega) (.inl (by omega))]
   have e3 : (closedF r2 (l.getD i evz)).2.chans = r.chans.set n ⟨(insR l n i).size, (insR l n i).buf, true⟩ := by
    unfold closedF
    rw [chan_at h e2 hc0 hc]
    dsimp only
    rw [if_pos h5]
    dsimp only
    rw [e2, hn, Int.toNat_natCast]
   rw [e3]
   constructor
   ·rw [List.length_set, hmm, hlen]
   ·intro c hcl
    rw [List.length_set] at hcl
    by_cases hcn : c = n
    ·subst hcn
     rw [List.getElem?_set_self hcl, ← hn, hst]
     unfold insStep
     dsimp only
     have a2 : (l.getD i evz).kind ≠ 3 ∧ ((l.getD i evz).kind ≠ 4 ∨ (l.getD i evz).ok = false) := ⟨by omega, .inl (by omega)⟩
     rw [if_neg (fun hh => hh rfl), if_pos a2]
     dsimp only
     rw [if_neg h2, if_pos h5]
    ·rw [List.getElem?_set_ne (by omega), hio (by omega)]
     exact h.ins c hcl
   ·intro c hcl
    rw [List.length_set] at hcl
    rw [hio (by omega)]
    exact h.insNew c hcl
  ·rw [(closed_keeps _ (l.getD i evz)).2.2.2 h5]
   by_cases hk : (l.getD i evz).kind ≠ 3 ∧ ((l.getD i evz).kind ≠ 4 ∨ (l.getD i evz).ok = false)
   ·rw [(ordered_keeps r2 (nextF l i) (l.getD i evz)).2.2.2 hk.1 hk.2, e2]
    have hsame : ∀ c : Int, (insR l c (i + 1)).size = (insR l c i).size ∧ (insR l c (i + 1)).buf = (insR l c i).buf ∧ (insR l c (i + 1)).closed = (insR l c i).closed := fun c => by
     by_cases hcc : (l.getD i evz).chan = c
     ·subst hcc
      rw [hst]
      unfold insStep
      dsimp only
      rw [if_neg (fun hh => hh rfl), if_pos hk]
      dsimp only
      rw [if_neg h2, if_neg h5]
      exact ⟨rfl, rfl, rfl⟩
     ·rw [hio hcc]
      exact ⟨rfl, rfl, rfl⟩
    constructor
    ·rw [hmm, hlen]
    ·intro c hcl
     obtain ⟨a, b, d⟩ := hsame c
     rw [a, b, d]
     exact h.ins c hcl
    ·intro c hcl
     obtain ⟨a, b, d⟩ := hsame c
     rw [b, d]
     exact h.insNew c hcl
   ·have h34 : (l.getD i evz).kind = 3 ∨ (l.getD i evz).kind = 4 := by omega
    have hc0 := hr.cc (by omega)
    obtain ⟨n, hn⟩ : ∃ n : Nat, (l.getD i evz).chan = n := ⟨(l.getD i evz).chan.toNat, by omega⟩
    have hts := hts (by
     rcases h34 with h3 | h4
     ·exact .inl ⟨h3, hr.s3 h3⟩
     ·refine .inr ⟨h4, hr.s4 h4, ?_⟩
      cases ho : (l.getD i evz).ok
      ·exact absurd ⟨by omega, .inr ho⟩ hk
      ·rfl)
    have e3 : (orderedF r2 (nextF l i) (l.getD i evz)).2.chans = r.chans.set n (takeF ⟨(insR l (l.getD i evz).chan i).size, (insR l (l.getD i evz).chan i).buf, (insR l (l.getD i evz).chan i).closed⟩ (nextF l i) (l.getD i evz)).2 := by
     unfold orderedF
     rw [chan_at h e2 hc0 hc]
     dsimp only
     rw [if_neg hk]
     dsimp only
     rw [e2]
     congr 1
     omega
    rw [e3]
    constructor
    ·rw [List.length_set, hmm, hlen]
    ·intro c hcl
     rw [List.length_set] at hcl
     by_cases hcn : c = n
     ·subst hcn
      rw [List.getElem?_set_self hcl, ← hn, hst, hts]
     ·rw [List.getElem?_set_ne (by omega), hio (by omega)]
      exact h.ins c hcl
    ·intro c hcl
     rw [List.length_set] at hcl
     rw [hio (by omega)]
     exact h.insNew c hcl
end
end Go.Proofs.YtchkaaeoffmjnaaGreatDoor
namespace Go.Proofs.YtchkaaeoffmjnaaGreatDoor
set_option linter.unusedVariables false
set_option linter.unusedSimpArgs false
section
variable {l : List Ev} {i : Nat} {r r1 : RdrM}
theorem closer_step (h : InvG l i r) (hi : i < l.length) (hc : r1.closer = r.closer) (hs : servedR l i = true) (e : Ev) :
  backR l e (i + 1) = ((servedF r1 (prevF l i) (l.getD i evz)).2.closer.kind == 5 && e.mate == (servedF r1 (prevF l i) (l.getD i evz)).2.closer.g && e.chan == (servedF r1 (prevF l i) (l.getD i evz)).2.closer.chan) := by
 have hb : backR l e (i + 1) = (if (l.getD i evz).kind = 5 then (l.getD i evz).g == e.mate && (l.getD i evz).chan == e.chan else if (l.getD i evz).kind ≠ 7 ∨ (0 < i ∧ servesF (l.getD (i - 1) evz) = true) then false else backR l e i) := rfl
 have hcl := h.closer e
 unfold servedR at hs
 unfold servedF
 rw [prev_at (Nat.le_of_lt hi)]
 obtain ⟨x, hx⟩ : ∃ x, l.getD i evz = x := ⟨_, rfl⟩
 rw [hx] at hb hs ⊢
 dsimp only at hs
 rw [hb]
 by_cases h0 : 0 < i ∧ servesF (l.getD (i - 1) evz) = true
 ·rw [if_pos h0] at hs
  have h7 : x.kind = 7 := by
   simp only [Bool.and_eq_true, beq_iff_eq] at hs
   exact hs.1.1.1.1.1.1
  rw [if_neg (by omega), if_pos (.inr h0), if_neg (show ¬ i = 0 by omega)]
  simp only [Option.filter, h0.2, if_true]
  rw [hc, ← hcl]
  obtain ⟨j, rfl⟩ : ∃ j, i = j + 1 := ⟨i - 1, by omega⟩
  have hj : backR l e (j + 1) = (if (l.getD j evz).kind = 5 then (l.getD j evz).g == e.mate && (l.getD j evz).chan == e.chan else if (l.getD j evz).kind ≠ 7 ∨ (0 < j ∧ servesF (l.getD (j - 1) evz) = true) then false else backR l e j) := rfl
  rw [hj]
  have hk := h0.2
  rw [Nat.add_sub_cancel] at hk
  unfold servesF at hk
  simp only [Bool.and_eq_true, Bool.or_eq_true, beq_iff_eq, decide_eq_true_eq] at hk
  rw [if_neg (by omega), if_pos (.inl (by omega))]
 ·rw [if_neg h0] at hs
  have hn : (if i = 0 then none else some (l.getD (i - 1) evz)).filter servesF = none := by
   by_cases hz : i = 0
   ·rw [if_pos hz]; rfl
   ·rw [if_neg hz]
    have : servesF (l.getD (i - 1) evz) = false := by
     cases hs : servesF (l.getD (i - 1) evz)
     ·rfl
     ·exact absurd ⟨by omega, hs⟩ h0
    simp only [Option.filter, this]
    rfl
  rw [hn]
  dsimp only
  by_cases h7 : x.kind = 7
  ·have a1 : ¬ (x.kind ≠ 7 ∨ (0 < i ∧ servesF (l.getD (i - 1) evz) = true)) := fun hh => hh.elim (fun h => h h7) h0
   rw [if_neg (show ¬ x.kind = 5 by omega), if_neg a1, if_pos h7, hcl, hc]
  ·rw [if_neg h7]
   dsimp only
   by_cases h5 : x.kind = 5
   ·rw [if_pos h5, h5]
    rw [Bool.eq_iff_iff]
    simp only [Bool.and_eq_true, beq_iff_eq, true_and]
    exact ⟨fun hh => ⟨hh.1.symm, hh.2.symm⟩, fun hh => ⟨hh.1.symm, hh.2.symm⟩⟩
   ·rw [if_neg h5, if_pos (.inl h7), beq_eq_false_iff_ne.2 h5]
    simp
theorem made_keeps2 (r : RdrM) (e : Ev) : (madeF r e).2.crew = r.crew ∧ (madeF r e).2.over = r.over := by
 unfold madeF
 split
 ·split <;> exact ⟨rfl, rfl⟩
 ·exact ⟨rfl, rfl⟩
theorem served_keeps2 (r : RdrM) (p : Option Ev) (e : Ev) : (servedF r p e).2.crew = r.crew ∧ (servedF r p e).2.over = r.over := by
 unfold servedF
 split
 ·exact ⟨rfl, rfl⟩
 ·split <;> exact ⟨rfl, rfl⟩
theorem step_rules (h : InvG l i r) (hi : i < l.length) : (stepG r (prevF l i) (nextF l i) (l.getD i evz)).1 = brR l i := by
 unfold stepG brR
 rw [ent_ref]
 by_cases h1 : ref12 (l.getD i evz) = 0
 ·have hr := Rt.of h1
  have a0 : ¬ ref12 (l.getD i evz) ≠ 0 := fun hh => hh h1
  rw [if_neg a0, if_neg a0, crew_same h hr, made_same h hr]
  have ck := crewed_keeps r (l.getD i evz)
  have mk := made_keeps (crewedF r (l.getD i evz)).2 (l.getD i evz)
  have sk := served_keeps (madeF (crewedF r (l.getD i evz)).2 (l.getD i evz)).2 (prevF l i) (l.getD i evz)
  rw [served_same h hi (mk.1.trans ck.2)]
  by_cases h2 : crewR l i = false
  ·rw [if_pos h2, if_pos h2]
  ·rw [if_neg h2, if_neg h2]
   by_cases h3 : madeR l i = false
   ·rw [if_pos h3, if_pos h3]
   ·rw [if_neg h3, if_neg h3]
    have h3' : madeR l i = true := by simpa using h3
    rw [ordered_same h hi hr (fun hk => sk.trans ((mk.2 hk).trans ck.1)) h3', closed_same h hr (fun hk => sk.trans ((mk.2 hk).trans ck.1)) h3']
    by_cases h4 : servedR l i = false
    ·rw [if_pos h4, if_pos h4]
    ·rw [if_neg h4, if_neg h4]
     by_cases h5 : orderedR l i = false
     ·rw [if_pos h5, if_pos h5]
     ·rw [if_neg h5, if_neg h5]
      by_cases h6 : closedR l i = false
      ·rw [if_pos h6, if_pos h6]
      ·rw [if_neg h6, if_neg h6]
 ·rw [if_pos h1, if_pos h1]
theorem InvG.step (h : InvG l i r) (hi : i < l.length) (hb : brR l i = 0) : InvG l (i + 1) (stepG r (prevF l i) (nextF l i) (l.getD i evz)).2 := by
 have hs := step_rules h hi
 rw [hb] at hs
 unfold brR at hb
 have h1 : ref12 (l.getD i evz) = 0 := by
  rcases Decidable.em (ref12 (l.getD i evz) = 0) with h1 | h1
  ·exact h1
  ·rw [if_pos h1] at hb
   cases hb
 have a0 : ¬ ref12 (l.getD i evz) ≠ 0 := fun hh => hh h1
 rw [if_neg a0] at hb
 have hr := Rt.of h1
 have h2 : crewR l i = true := by
  cases hx : crewR l i
  ·rw [if_pos hx] at hb
   cases hb
  ·rfl
 rw [if_neg (by simp [h2])] at hb
 have h3 : madeR l i = true := by
  cases hx : madeR l i
  ·rw [if_pos hx] at hb
   cases hb
  ·rfl
 rw [if_neg (by simp [h3])] at hb
 have h4 : servedR l i = true := by
  cases hx : servedR l i
  ·rw [if_pos hx] at hb
   cases hb
  ·rfl
 have ck := crewed_keeps r (l.getD i evz)
 have mk := made_keeps (crewedF r (l.getD i evz)).2 (l.getD i evz)
 have mk2 := made_keeps2 (crewedF r (l.getD i evz)).2 (l.getD i evz)
 have sk2 := served_keeps2 (madeF (crewedF r (l.getD i evz)).2 (l.getD i evz)).2 (prevF l i) (l.getD i evz)
 have hC := crew_step h hr (by rw [crew_same h hr]; exact h2)
 have hD := chan_step (p := prevF l i) h hi hr ck.1 h3
 have hE := closer_step h hi (mk.1.trans ck.2) h4
 have hfin : (stepG r (prevF l i) (nextF l i) (l.getD i evz)).2 = (closedF (orderedF (servedF (madeF (crewedF r (l.getD i evz)).2 (l.getD i evz)).2 (prevF l i) (l.getD i evz)).2 (nextF l i) (l.getD i evz)).2 (l.getD i evz)).2 := by
  unfold stepG at hs ⊢
  split
  ·rename_i hx; rw [if_pos hx] at hs; cases hs
  rename_i hx; rw [if_neg hx] at hs
  split
  ·rename_i hx; rw [if_pos hx] at hs; cases hs
  rename_i hx; rw [if_neg hx] at hs
  split
  ·rename_i hx; rw [if_pos hx] at hs; cases hs
  rename_i hx; rw [if_neg hx] at hs
  split
  ·rename_i hx; rw [if_pos hx] at hs; cases hs
  rename_i hx; rw [if_neg hx] at hs
  split
  ·rename_i hx; rw [if_pos hx] at hs; cases hs
  rename_i hx; rw [if_neg hx] at hs
  split <;> rfl
 rw [hfin]
 obtain ⟨r3, hr3⟩ : ∃ r3, (servedF (madeF (crewedF r (l.getD i evz)).2 (l.getD i evz)).2 (prevF l i) (l.getD i evz)).2 = r3 := ⟨_, rfl⟩
 rw [hr3] at sk2 hD hE ⊢
 have ok := ordered_keeps r3 (nextF l i) (l.getD i evz)
 have cl := closed_keeps (orderedF r3 (nextF l i) (l.getD i evz)).2 (l.getD i evz)
 have ecrew := cl.2.1.trans (ok.2.1.trans (sk2.1.trans mk2.1))
 have eover := cl.2.2.1.trans (ok.2.2.1.trans (sk2.2.trans mk2.2))
 have ecl := cl.1.trans ok.1
 refine ⟨fun g => ?_, fun g => ?_, fun ho g hg => ?_, fun g hg => ?_, hD.makes, hD.ins, hD.insNew, fun e => ?_⟩
 ·rw [eover]; exact hC.over g
 ·rw [ecrew]; exact hC.there g
 ·rw [ecrew] at hg ⊢
  rw [eover] at ho
  exact hC.crew ho g hg
 ·rw [ecrew] at hg
  exact hC.new g hg
 ·rw [ecl]; exact hE e
end
end Go.Proofs.YtchkaaeoffmjnaaGreatDoor
namespace Go.Proofs.YtchkaaeoffmjnaaGreatDoor
set_option linter.unusedVariables false
set_option linter.unusedSimpArgs false
end Go.Proofs.YtchkaaeoffmjnaaGreatDoor
namespace Go.Proofs.YtchkaaeoffmjnaaGreatDoor
set_option linter.unusedVariables false
set_option linter.unusedSimpArgs false
def oneC (x : Bool × Bool) : List Value := [.bool x.1, .bool x.2]
def crewC (cr : List (Bool × Bool)) : List Value := cr.flatMap oneC
end Go.Proofs.YtchkaaeoffmjnaaGreatDoor
namespace Go.Proofs.YtchkaaeoffmjnaaGreatDoor
set_option linter.unusedVariables false
set_option linter.unusedSimpArgs false
open Go.RowKit
set_option maxRecDepth 100000
@[reducible] def rdrRow (rb : Nat) (lv : Value) (at_ : Int) (crv : Value) (mb : Nat) (c : Ev) (over : Bool) : Piece := row rb #[lv, .int .i64 at_, crv, .map (some mb), .int .i64 c.kind, .int .i64 c.g, .int .i64 c.chan, .int .i64 c.case_, .int .i64 c.value, .int .i64 c.mate, .bool c.send, .bool c.ok, .bool over] 125
end Go.Proofs.YtchkaaeoffmjnaaGreatDoor
namespace Go.Proofs.YtchkaaeoffmjnaaGreatDoor
set_option linter.unusedVariables false
set_option linter.unusedSimpArgs false
open Go.RowKit
/-- A channel: its row and its buffer. -/
def chP (p : Nat) (c : ChnM) : Piece := exP fun v => all [row p #[.int .i64 c.size, v, .bool c.closed] 246, Qu 3 1 v c.buf.length (ints c.buf)]
def chMap (ps : List Nat) : Int → Option Value := fun c => if c < 0 then none else (ps[c.toNat]?).map fun p => .pointer (some ⟨p, 0, none⟩)
def chsP (ps : List Nat) (cs : List ChnM) : Piece := all (List.zipWith chP ps cs)
section
variable {w : World} {F : List Piece} {ps : List Nat} {cs : List ChnM} {k p : Nat} {x y : ChnM}
end
/-- The reader behind a pointer. -/
def RdrP (rb : Nat) (lv : Value) (at_ : Int) (r : RdrM) : Piece := exP fun (x : Value × Nat × List Nat) => andP (x.2.2.length = r.chans.length)
 (all [rdrRow rb lv at_ x.1 x.2.1 r.closer r.over, Slc 242 2 x.1 r.crew.length (crewC r.crew), MapP 3 x.2.1 r.chans.length (chMap x.2.2), chsP x.2.2 r.chans])
theorem RdrP.iff {w : World} {F : List Piece} {rb : Nat} {lv : Value} {at_ : Int} {r : RdrM} : SL w (RdrP rb lv at_ r :: F) ↔ ∃ crv mb ps, ps.length = r.chans.length ∧
  SL w (rdrRow rb lv at_ crv mb r.closer r.over :: Slc 242 2 crv r.crew.length (crewC r.crew) :: MapP 3 mb r.chans.length (chMap ps) :: chsP ps r.chans :: F) := by
 constructor
 ·intro h
  obtain ⟨⟨crv, mb, ps⟩, h⟩ := SL.exP.1 h
  obtain ⟨h1, h⟩ := SL.andP.1 h
  exact ⟨crv, mb, ps, h1, SL.all.1 h⟩
 ·rintro ⟨crv, mb, ps, h1, h⟩
  exact SL.exP.2 ⟨(crv, mb, ps), SL.andP.2 ⟨h1, SL.all.2 h⟩⟩
end Go.Proofs.YtchkaaeoffmjnaaGreatDoor
namespace Go.Proofs.YtchkaaeoffmjnaaGreatDoor
set_option linter.unusedVariables false
set_option linter.unusedSimpArgs false
open Go.RowKit
set_option maxRecDepth 100000
end Go.Proofs.YtchkaaeoffmjnaaGreatDoor
namespace Go.Proofs.YtchkaaeoffmjnaaGreatDoor
set_option linter.unusedVariables false
set_option linter.unusedSimpArgs false
open Go.RowKit
set_option maxRecDepth 100000
end Go.Proofs.YtchkaaeoffmjnaaGreatDoor
namespace Go.Proofs.YtchkaaeoffmjnaaGreatDoor
set_option linter.unusedVariables false
set_option linter.unusedSimpArgs false
end Go.Proofs.YtchkaaeoffmjnaaGreatDoor
namespace Go.Proofs.YtchkaaeoffmjnaaGreatDoor
set_option linter.unusedVariables false
set_option linter.unusedSimpArgs false
open Go.RowKit
theorem e_in (n a b : Int) (w : World) : Calls Tryz.prog 59 #[.agg #[.int .i64 a, .int .i64 b], .int .i64 n] w fun e w' => e = .returned (.bool (inn a b n)) ∧ Frm Nil w w' := by
 unfold inn
 by_cases h1 : a ≤ n <;> by_cases h2 : n ≤ b <;> simp only [h1, h2, decide_true, decide_false, Bool.and_true, Bool.and_false]
 all_goals
  go_enter Tryz.func59, Tryz.ntmps59
  go_wp2_with fail
  go_ret
  exact ⟨rfl, (Frm.refl _ _).alloc _⟩
set_option maxHeartbeats 2000000 in
theorem e_odd (e : Ev) (w : World) : Calls Tryz.prog 60 #[e.agg] w fun o w' => o = .returned (.bool (oddF e)) ∧ Frm Nil w w' := by
 obtain ⟨kind, g, chan, case_, value, mate, send, ok⟩ := e
 have hb : ∀ x y : Int, (x == y) = decide (x = y) := fun _ _ => rfl
 unfold oddF Ev.agg
 dsimp only
 by_cases h3 : kind = 3
 ·subst h3
  rw [if_pos rfl]
  go_enter Tryz.func60, Tryz.ntmps60
  go_wp2_with fail
  go_ret
  exact ⟨rfl, (Frm.refl _ _).alloc _⟩
 ·rw [if_neg h3]
  have e3 : (kind == 3) = false := beq_eq_false_iff_ne.2 h3
  by_cases h4 : kind = 4
  ·subst h4
   rw [if_pos rfl]
   cases ok
   ·by_cases hv : value = 0
    ·subst hv
     by_cases hm : mate = -1
     ·subst hm
      go_enter Tryz.func60, Tryz.ntmps60
      go_wp2_with fail
      go_ret
      exact ⟨rfl, (Frm.refl _ _).alloc _⟩
     ·have em : (mate == -1) = false := beq_eq_false_iff_ne.2 hm
      have em2 : (mate != -1) = true := by simp [hm]
      go_enter Tryz.func60, Tryz.ntmps60
      go_wp2_with fail
      go_ret
      exact ⟨by rw [em2]; rfl, (Frm.refl _ _).alloc _⟩
    ·have em : (value == 0) = false := beq_eq_false_iff_ne.2 hv
     have em2 : (value != 0) = true := by simp [hv]
     go_enter Tryz.func60, Tryz.ntmps60
     go_wp2_with fail
     go_ret
     exact ⟨by rw [em2]; rfl, (Frm.refl _ _).alloc _⟩
   ·go_enter Tryz.func60, Tryz.ntmps60
    go_wp2_with fail
    go_ret
    exact ⟨rfl, (Frm.refl _ _).alloc _⟩
  ·rw [if_neg h4]
   have e4 : (kind == 4) = false := beq_eq_false_iff_ne.2 h4
   by_cases h6 : kind = 6
   ·subst h6
    rw [if_pos rfl]
    rcases Decidable.em (value = 0) with hv | hv <;> rcases Decidable.em (0 ≤ case_) with hc | hc <;> rcases Decidable.em (0 ≤ chan) with hh | hh
    all_goals
     have ev : (value == 0) = decide (value = 0) := rfl
     have ev2 : (value != 0) = !decide (value = 0) := rfl
     simp only [hv, hc, hh, decide_true, decide_false, Bool.not_true, Bool.not_false] at ev ev2 ⊢
     cases send
     all_goals
      go_enter Tryz.func60, Tryz.ntmps60
      go_wp2_with fail
      go_ret
      exact ⟨by first | rfl | simp [ev2, hc, hh, hv], (Frm.refl _ _).alloc _⟩
   ·rw [if_neg h6]
    have e6 : (kind == 6) = false := beq_eq_false_iff_ne.2 h6
    by_cases h7 : kind = 7
    ·subst h7
     rw [if_pos rfl]
     rcases Decidable.em (value = 0) with hv | hv
     all_goals
      have ev : (value == 0) = decide (value = 0) := rfl
      have ev2 : (value != 0) = !decide (value = 0) := rfl
      simp only [hv, decide_true, decide_false, Bool.not_true, Bool.not_false] at ev ev2 ⊢
      cases send <;> cases ok
      all_goals
       go_enter Tryz.func60, Tryz.ntmps60
       go_wp2_with fail
       go_ret
       exact ⟨by first | rfl | simp [ev2, hv], (Frm.refl _ _).alloc _⟩
    ·rw [if_neg h7]
     have e7 : (kind == 7) = false := beq_eq_false_iff_ne.2 h7
     go_enter Tryz.func60, Tryz.ntmps60
     go_wp2_with fail
     go_ret
     exact ⟨by first | rfl | simp [hb], (Frm.refl _ _).alloc _⟩
end Go.Proofs.YtchkaaeoffmjnaaGreatDoor
namespace Go.Proofs.YtchkaaeoffmjnaaGreatDoor
set_option linter.unusedVariables false
set_option linter.unusedSimpArgs false
open Go.RowKit
theorem e_fields (b : Nat) (w : World) : Calls Tryz.prog 61 #[.pointer (some ⟨b, 0, none⟩)] w fun e w' => e = .returned (.agg #[.pointer (some ⟨b, 1, none⟩), .pointer (some ⟨b, 2, none⟩), .pointer (some ⟨b, 3, none⟩), .pointer (some ⟨b, 4, none⟩), .pointer (some ⟨b, 5, none⟩)]) ∧ Frm Nil w w' := by
 go_enter Tryz.func61, Tryz.ntmps61
 go_wp2_with fail
 go_region
 go_wp2_with fail
 refine bodyPost_ret (v := .agg #[.pointer (some ⟨b, 1, none⟩), .pointer (some ⟨b, 2, none⟩), .pointer (some ⟨b, 3, none⟩), .pointer (some ⟨b, 4, none⟩), .pointer (some ⟨b, 5, none⟩)]) (by simp [results, Tryz.results61, go_sem]) rfl ⟨rfl, ?_⟩
 exact (by repeat (first | with_reducible exact Frm.refl _ _ | apply Frm.drewN | apply Frm.drew | apply Frm.alloc))
def Shp.agg (s : Shp) : Value := .agg #[.int .i64 s.c0, .int .i64 s.c1, .int .i64 s.k0, .int .i64 s.k1, .int .i64 s.v0, .int .i64 s.v1, .int .i64 s.m0, .int .i64 s.m1, .bool s.send, .bool s.ok]
/-- What entry's variables hold. -/
structure Spans (w : World) : Prop where
 a0 : w.cell? ⟨0, 0, none⟩ = some (.int .i64 0)
 a1 : w.cell? ⟨0, 1, none⟩ = some (.int .i64 511)
 b0 : w.cell? ⟨1, 0, none⟩ = some (.int .i64 (-1))
 b1 : w.cell? ⟨1, 1, none⟩ = some (.int .i64 (-1))
 c0 : w.cell? ⟨2, 0, none⟩ = some (.int .i64 (-1))
 c1 : w.cell? ⟨2, 1, none⟩ = some (.int .i64 511)
 lt : 2 < w.heap.size
theorem e_of1 (w : World) (h : Spans w) : Calls Tryz.prog 58 #[.int .i64 1] w fun e w' => e = .returned (shapeF 1).agg ∧ Frm Nil w w' := by
 obtain ⟨a0, a1, b0, b1, c0, c1, lt⟩ := h
 have l0 : 0 < w.heap.size := by omega
 have l1 : 1 < w.heap.size := by omega
 go_enter Tryz.func58, Tryz.ntmps58
 go_wp2_with fail
 refine bodyPost_ret (v := (shapeF 1).agg) (by simp [results, Tryz.results58, go_sem, shapeF, Shp.agg]) rfl ⟨rfl, ?_⟩
 exact (by repeat (first | with_reducible exact Frm.refl _ _ | apply Frm.drewN | apply Frm.drew | apply Frm.alloc))
theorem e_of2 (w : World) (h : Spans w) : Calls Tryz.prog 58 #[.int .i64 2] w fun e w' => e = .returned (shapeF 2).agg ∧ Frm Nil w w' := by
 obtain ⟨a0, a1, b0, b1, c0, c1, lt⟩ := h
 have l0 : 0 < w.heap.size := by omega
 have l1 : 1 < w.heap.size := by omega
 go_enter Tryz.func58, Tryz.ntmps58
 go_wp2_with fail
 refine bodyPost_ret (v := (shapeF 2).agg) (by simp [results, Tryz.results58, go_sem, shapeF, Shp.agg]) rfl ⟨rfl, ?_⟩
 exact (by repeat (first | with_reducible exact Frm.refl _ _ | apply Frm.drewN | apply Frm.drew | apply Frm.alloc))
theorem e_of3 (w : World) (h : Spans w) : Calls Tryz.prog 58 #[.int .i64 3] w fun e w' => e = .returned (shapeF 3).agg ∧ Frm Nil w w' := by
 obtain ⟨a0, a1, b0, b1, c0, c1, lt⟩ := h
 have l0 : 0 < w.heap.size := by omega
 have l1 : 1 < w.heap.size := by omega
 go_enter Tryz.func58, Tryz.ntmps58
 go_wp2_with fail
 refine bodyPost_ret (v := (shapeF 3).agg) (by simp [results, Tryz.results58, go_sem, shapeF, Shp.agg]) rfl ⟨rfl, ?_⟩
 exact (by repeat (first | with_reducible exact Frm.refl _ _ | apply Frm.drewN | apply Frm.drew | apply Frm.alloc))
theorem e_of4 (w : World) (h : Spans w) : Calls Tryz.prog 58 #[.int .i64 4] w fun e w' => e = .returned (shapeF 4).agg ∧ Frm Nil w w' := by
 obtain ⟨a0, a1, b0, b1, c0, c1, lt⟩ := h
 have l0 : 0 < w.heap.size := by omega
 have l1 : 1 < w.heap.size := by omega
 go_enter Tryz.func58, Tryz.ntmps58
 go_wp2_with fail
 refine bodyPost_ret (v := (shapeF 4).agg) (by simp [results, Tryz.results58, go_sem, shapeF, Shp.agg]) rfl ⟨rfl, ?_⟩
 exact (by repeat (first | with_reducible exact Frm.refl _ _ | apply Frm.drewN | apply Frm.drew | apply Frm.alloc))
theorem e_of5 (w : World) (h : Spans w) : Calls Tryz.prog 58 #[.int .i64 5] w fun e w' => e = .returned (shapeF 5).agg ∧ Frm Nil w w' := by
 obtain ⟨a0, a1, b0, b1, c0, c1, lt⟩ := h
 have l0 : 0 < w.heap.size := by omega
 have l1 : 1 < w.heap.size := by omega
 go_enter Tryz.func58, Tryz.ntmps58
 go_wp2_with fail
 refine bodyPost_ret (v := (shapeF 5).agg) (by simp [results, Tryz.results58, go_sem, shapeF, Shp.agg]) rfl ⟨rfl, ?_⟩
 exact (by repeat (first | with_reducible exact Frm.refl _ _ | apply Frm.drewN | apply Frm.drew | apply Frm.alloc))
theorem e_of6 (w : World) (h : Spans w) : Calls Tryz.prog 58 #[.int .i64 6] w fun e w' => e = .returned (shapeF 6).agg ∧ Frm Nil w w' := by
 obtain ⟨a0, a1, b0, b1, c0, c1, lt⟩ := h
 have l0 : 0 < w.heap.size := by omega
 have l1 : 1 < w.heap.size := by omega
 go_enter Tryz.func58, Tryz.ntmps58
 go_wp2_with fail
 refine bodyPost_ret (v := (shapeF 6).agg) (by simp [results, Tryz.results58, go_sem, shapeF, Shp.agg]) rfl ⟨rfl, ?_⟩
 exact (by repeat (first | with_reducible exact Frm.refl _ _ | apply Frm.drewN | apply Frm.drew | apply Frm.alloc))
theorem e_of7 (w : World) (h : Spans w) : Calls Tryz.prog 58 #[.int .i64 7] w fun e w' => e = .returned (shapeF 7).agg ∧ Frm Nil w w' := by
 obtain ⟨a0, a1, b0, b1, c0, c1, lt⟩ := h
 have l0 : 0 < w.heap.size := by omega
 have l1 : 1 < w.heap.size := by omega
 go_enter Tryz.func58, Tryz.ntmps58
 go_wp2_with fail
 refine bodyPost_ret (v := (shapeF 7).agg) (by simp [results, Tryz.results58, go_sem, shapeF, Shp.agg]) rfl ⟨rfl, ?_⟩
 exact (by repeat (first | with_reducible exact Frm.refl _ _ | apply Frm.drewN | apply Frm.drew | apply Frm.alloc))
theorem e_of9 (w : World) (h : Spans w) : Calls Tryz.prog 58 #[.int .i64 9] w fun e w' => e = .returned (shapeF 9).agg ∧ Frm Nil w w' := by
 obtain ⟨a0, a1, b0, b1, c0, c1, lt⟩ := h
 have l0 : 0 < w.heap.size := by omega
 have l1 : 1 < w.heap.size := by omega
 go_enter Tryz.func58, Tryz.ntmps58
 go_wp2_with fail
 refine bodyPost_ret (v := (shapeF 9).agg) (by simp [results, Tryz.results58, go_sem, shapeF, Shp.agg]) rfl ⟨rfl, ?_⟩
 exact (by repeat (first | with_reducible exact Frm.refl _ _ | apply Frm.drewN | apply Frm.drew | apply Frm.alloc))
theorem e_of10 (w : World) (h : Spans w) : Calls Tryz.prog 58 #[.int .i64 10] w fun e w' => e = .returned (shapeF 10).agg ∧ Frm Nil w w' := by
 obtain ⟨a0, a1, b0, b1, c0, c1, lt⟩ := h
 have l0 : 0 < w.heap.size := by omega
 have l1 : 1 < w.heap.size := by omega
 go_enter Tryz.func58, Tryz.ntmps58
 go_wp2_with fail
 refine bodyPost_ret (v := (shapeF 10).agg) (by simp [results, Tryz.results58, go_sem, shapeF, Shp.agg]) rfl ⟨rfl, ?_⟩
 exact (by repeat (first | with_reducible exact Frm.refl _ _ | apply Frm.drewN | apply Frm.drew | apply Frm.alloc))
theorem e_of0 (k : Int) (hk : k ≠ 1 ∧ k ≠ 2 ∧ k ≠ 3 ∧ k ≠ 4 ∧ k ≠ 5 ∧ k ≠ 6 ∧ k ≠ 7 ∧ k ≠ 9 ∧ k ≠ 10) (w : World) (h : Spans w) : Calls Tryz.prog 58 #[.int .i64 k] w fun e w' => e = .returned (shapeF k).agg ∧ Frm Nil w w' := by
 obtain ⟨a0, a1, b0, b1, c0, c1, lt⟩ := h
 have l0 : 0 < w.heap.size := by omega
 have l1 : 1 < w.heap.size := by omega
 obtain ⟨h1, h2, h3, h4, h5, h6, h7, h9, h10⟩ := hk
 have e1 : (k == 1) = false := beq_eq_false_iff_ne.2 h1
 have e2 : (k == 2) = false := beq_eq_false_iff_ne.2 h2
 have e3 : (k == 3) = false := beq_eq_false_iff_ne.2 h3
 have e4 : (k == 4) = false := beq_eq_false_iff_ne.2 h4
 have e5 : (k == 5) = false := beq_eq_false_iff_ne.2 h5
 have e6 : (k == 6) = false := beq_eq_false_iff_ne.2 h6
 have e7 : (k == 7) = false := beq_eq_false_iff_ne.2 h7
 have e9 : (k == 9) = false := beq_eq_false_iff_ne.2 h9
 have e10 : (k == 10) = false := beq_eq_false_iff_ne.2 h10
 go_enter Tryz.func58, Tryz.ntmps58
 go_wp2_with fail
 refine bodyPost_ret (v := (shapeF k).agg) (by simp [results, Tryz.results58, go_sem, shapeF, Shp.agg, h1, h2, h3, h4, h5, h6, h7, h9, h10]) rfl ⟨rfl, ?_⟩
 exact (by repeat (first | with_reducible exact Frm.refl _ _ | apply Frm.drewN | apply Frm.drew | apply Frm.alloc))
theorem e_of (k : Int) (w : World) (h : Spans w) : Calls Tryz.prog 58 #[.int .i64 k] w fun e w' => e = .returned (shapeF k).agg ∧ Frm Nil w w' := by
 rcases Decidable.em (k ≠ 1 ∧ k ≠ 2 ∧ k ≠ 3 ∧ k ≠ 4 ∧ k ≠ 5 ∧ k ≠ 6 ∧ k ≠ 7 ∧ k ≠ 9 ∧ k ≠ 10) with hk | hk
 ·exact e_of0 k hk w h
 ·have : k = 1 ∨ k = 2 ∨ k = 3 ∨ k = 4 ∨ k = 5 ∨ k = 6 ∨ k = 7 ∨ k = 9 ∨ k = 10 := by omega
  rcases this with rfl | rfl | rfl | rfl | rfl | rfl | rfl | rfl | rfl
  ·exact e_of1 w h
  ·exact e_of2 w h
  ·exact e_of3 w h
  ·exact e_of4 w h
  ·exact e_of5 w h
  ·exact e_of6 w h
  ·exact e_of7 w h
  ·exact e_of9 w h
  ·exact e_of10 w h
end Go.Proofs.YtchkaaeoffmjnaaGreatDoor
namespace Go.Proofs.YtchkaaeoffmjnaaGreatDoor
set_option linter.unusedVariables false
set_option linter.unusedSimpArgs false
open Go.RowKit
theorem box8 {w : World} {g : Nat} {a b c d e f h i : Value} {t : Nat} (q : w.heap[g]? = some (.cells #[a, b, c, d, e, f, h, i] t (0, 0))) :
  w.cell? ⟨g, 0, none⟩ = some a ∧ w.cell? ⟨g, 1, none⟩ = some b ∧ w.cell? ⟨g, 2, none⟩ = some c ∧ w.cell? ⟨g, 3, none⟩ = some d ∧ w.cell? ⟨g, 4, none⟩ = some e ∧ w.cell? ⟨g, 5, none⟩ = some f ∧ w.cell? ⟨g, 6, none⟩ = some h ∧ w.cell? ⟨g, 7, none⟩ = some i ∧ (∀ x, w.frozen? ⟨g, x, none⟩ = false) :=
 ⟨row_cell q 0 rfl, row_cell q 1 rfl, row_cell q 2 rfl, row_cell q 3 rfl, row_cell q 4 rfl, row_cell q 5 rfl, row_cell q 6 rfl, row_cell q 7 rfl, row_free q⟩
theorem box10 {w : World} {g : Nat} {a b c d e f h i j k : Value} {t : Nat} (q : w.heap[g]? = some (.cells #[a, b, c, d, e, f, h, i, j, k] t (0, 0))) :
  w.cell? ⟨g, 0, none⟩ = some a ∧ w.cell? ⟨g, 1, none⟩ = some b ∧ w.cell? ⟨g, 2, none⟩ = some c ∧ w.cell? ⟨g, 3, none⟩ = some d ∧ w.cell? ⟨g, 4, none⟩ = some e ∧ w.cell? ⟨g, 5, none⟩ = some f ∧ w.cell? ⟨g, 6, none⟩ = some h ∧ w.cell? ⟨g, 7, none⟩ = some i ∧ w.cell? ⟨g, 8, none⟩ = some j ∧ w.cell? ⟨g, 9, none⟩ = some k ∧ (∀ x, w.frozen? ⟨g, x, none⟩ = false) :=
 ⟨row_cell q 0 rfl, row_cell q 1 rfl, row_cell q 2 rfl, row_cell q 3 rfl, row_cell q 4 rfl, row_cell q 5 rfl, row_cell q 6 rfl, row_cell q 7 rfl, row_cell q 8 rfl, row_cell q 9 rfl, row_free q⟩
theorem Spans.later {w w' : World} (h : Spans w) (f : Frm Nil w w') : Spans w' := by
 obtain ⟨a0, a1, b0, b1, c0, c1, lt⟩ := h
 have k : ∀ (p : Addr) v, w.cell? p = some v → w'.cell? p = some v := fun p v hc => f.out hc (fun h => h)
 exact ⟨k _ _ a0, k _ _ a1, k _ _ b0, k _ _ b1, k _ _ c0, k _ _ c1, Nat.lt_of_lt_of_le lt f.size⟩
set_option maxRecDepth 100000 in
set_option maxHeartbeats 2000000 in
theorem e_check_bad (e : Ev) (w : World) (hk : e.kind < 1 ∨ 13 < e.kind) : Calls Tryz.prog 24 #[e.agg] w fun o w' => o = .returned (.int .i64 1) ∧ Frm Nil w w' := by
 obtain ⟨kind, g, chan, case_, value, mate, send, ok⟩ := e
 unfold Ev.agg
 dsimp only at hk ⊢
 by_cases h1 : kind < 1
 ·go_enter Tryz.func24, Tryz.ntmps24
  go_wp2_with fail
  go_ret
  exact ⟨rfl, (Frm.refl _ _).alloc _⟩
 ·have h2 : 13 < kind := by omega
  go_enter Tryz.func24, Tryz.ntmps24
  go_wp2_with fail
  go_ret
  exact ⟨rfl, (Frm.refl _ _).alloc _⟩
theorem sl_in {w : World} {L : List Piece} (H : SL w L) (a b n : Int) : Calls Tryz.prog 59 #[.agg #[.int .i64 a, .int .i64 b], .int .i64 n] w fun e w' => e = .returned (.bool (inn a b n)) ∧ SL w' L :=
 (e_in n a b w).mono fun _ _ q => ⟨q.1, H.later q.2⟩
theorem sl_odd {w : World} {L : List Piece} (H : SL w L) (e : Ev) : Calls Tryz.prog 60 #[e.agg] w fun o w' => o = .returned (.bool (oddF e)) ∧ SL w' L :=
 (e_odd e w).mono fun _ _ q => ⟨q.1, H.later q.2⟩
theorem sl_fields {w : World} {L : List Piece} (H : SL w L) (b : Nat) : Calls Tryz.prog 61 #[.pointer (some ⟨b, 0, none⟩)] w fun e w' => e = .returned (.agg #[.pointer (some ⟨b, 1, none⟩), .pointer (some ⟨b, 2, none⟩), .pointer (some ⟨b, 3, none⟩), .pointer (some ⟨b, 4, none⟩), .pointer (some ⟨b, 5, none⟩)]) ∧ SL w' L :=
 (e_fields b w).mono fun _ _ q => ⟨q.1, H.later q.2⟩
/-- ok behind the first k rounds. -/
def okAt (e : Ev) (s : Shp) (ok : Bool) (k : Nat) : Bool :=
 ok && (decide (k < 2) || inn s.c0 s.c1 e.chan) && (decide (k < 3) || inn s.k0 s.k1 e.case_) && (decide (k < 4) || inn s.v0 s.v1 e.value) && (decide (k < 5) || inn s.m0 s.m1 e.mate)
set_option maxRecDepth 100000 in
set_option maxHeartbeats 2000000 in
theorem e_check_ok (e : Ev) (w : World) (hs : Spans w) (h1 : ¬ e.kind < 1) (h2 : ¬ 13 < e.kind) : Calls Tryz.prog 24 #[e.agg] w fun o w' => o = .returned (.int .i64 (entF e)) ∧ Frm Nil w w' := by
 have ko := fun (w' : World) (f : Frm Nil w w') => e_of e.kind w' (hs.later f)
 have kd := fun (w' : World) (L : List Piece) (H : SL w' L) => sl_odd H e
 have H := SL.start w
 obtain ⟨kind, g, chan, case_, value, mate, send, ok⟩ := e
 obtain ⟨S, hS⟩ : ∃ S, shapeF kind = S := ⟨_, rfl⟩
 obtain ⟨D, hD⟩ : ∃ D, oddF ⟨kind, g, chan, case_, value, mate, send, ok⟩ = D := ⟨_, rfl⟩
 obtain ⟨R, hR⟩ : ∃ R, entF ⟨kind, g, chan, case_, value, mate, send, ok⟩ = R := ⟨_, rfl⟩
 unfold Ev.agg at kd ⊢
 unfold Shp.agg at ko
 dsimp only at h1 h2 ko kd ⊢
 rw [hS] at ko
 rw [hD] at kd
 rw [hR]
 have HR : R = if okAt ⟨kind, g, chan, case_, value, mate, send, ok⟩ S ((((if kind = 13 then inn (-1) (-1) g else inn 0 511 g) && (S.send || !send)) && (S.ok || !ok)) && !D) 5 = true then 0 else 4 := by
  rw [← hR]
  unfold entF okAt
  dsimp only
  rw [if_neg (by omega), hS, hD]
  simp
 obtain ⟨I, hI⟩ : ∃ I, (if kind = 13 then inn (-1) (-1) g else inn 0 511 g) = I := ⟨_, rfl⟩
 rw [hI] at HR
 have HQ := Lib.hid HR
 clear hR hS hD
 obtain ⟨s0, s1, s2, s3, s4, s5, s6, s7, ss, so⟩ := S
 dsimp only at ko HQ
 have KO := Lib.hid ko
 have KD := Lib.hid kd
 clear ko kd
 go_enter Tryz.func24, Tryz.ntmps24
 go_wp2_with fail
 refine (KO.out _ ((Frm.refl _ _).alloc _)).mono ?_
 rintro o w1 ⟨rfl, f1⟩
 have H1 := (H.alloc (.cells #[.int .i64 kind, .int .i64 g, .int .i64 chan, .int .i64 case_, .int .i64 value, .int .i64 mate, .bool send, .bool ok] 53)).later f1
 have hs1 := hs.later (((Frm.refl Nil w).alloc _).then f1)
 obtain ⟨ga0, ga1, gb0, gb1, gc0, gc1, glt⟩ := hs1
 have gl0 : 0 < w1.heap.size := by omega
 have gl1 : 1 < w1.heap.size := by omega
 obtain ⟨be, hbe⟩ : ∃ b, w.heap.size = b := ⟨_, rfl⟩
 rw [hbe] at H1
 simp only [hbe]
 clear hbe f1
 obtain ⟨d0, d1, d2, d3, d4, d5, d6, d7, df⟩ := box8 (H1.at 0 rfl)
 have dl := lt_of_block (H1.at 0 rfl)
 have KF := Lib.hid (fun (w' : World) (L : List Piece) (H : SL w' L) => sl_fields H be)
 have KI := Lib.hid (fun (w' : World) (L : List Piece) (H : SL w' L) (a b n : Int) => sl_in H a b n)
 rcases Decidable.em (kind = 13) with h13 | h13
 case' inl =>
  have K1 : ∀ (w' : World) (L : List Piece), SL w' L → Calls Tryz.prog 59 #[.agg #[.int .i64 (-1), .int .i64 (-1)], .int .i64 g] w' fun e w'' => e = .returned (.bool I) ∧ SL w'' L := by
   intro w' L H
   rw [← hI, if_pos h13]
   exact sl_in H _ _ _
  have e13 : (kind == 13) = true := beq_iff_eq.2 h13
  have HK1 := Lib.hid K1
  clear K1 hI h13
  go_upto_region 7 with (fail)
 case' inr =>
  have K1 : ∀ (w' : World) (L : List Piece), SL w' L → Calls Tryz.prog 59 #[.agg #[.int .i64 0, .int .i64 511], .int .i64 g] w' fun e w'' => e = .returned (.bool I) ∧ SL w'' L := by
   intro w' L H
   rw [← hI, if_neg h13]
   exact sl_in H _ _ _
  have e13 : (kind == 13) = false := beq_eq_false_iff_ne.2 h13
  have HK1 := Lib.hid K1
  clear K1 hI
  go_upto_region 7 with (fail)
 all_goals
  clear HR
  go_cut [5] (fun q5 wx => q5 = .bool (I && (ss || !send) && (so || !ok) && !D) ∧ SL wx [row w1.heap.size #[.int .i64 s0, .int .i64 s1, .int .i64 s2, .int .i64 s3, .int .i64 s4, .int .i64 s5, .int .i64 s6, .int .i64 s7, .bool ss, .bool so] 112, row be #[.int .i64 kind, .int .i64 g, .int .i64 chan, .int .i64 case_, .int .i64 value, .int .i64 mate, .bool send, .bool ok] 53, Old w])
  case first =>
   have H2 := (H1.alloc (.cells #[.int .i64 s0, .int .i64 s1, .int .i64 s2, .int .i64 s3, .int .i64 s4, .int .i64 s5, .int .i64 s6, .int .i64 s7, .bool ss, .bool so] 112))
   go_wp2_with fail
   refine (HK1.out _ _ (H2.allocd _)).mono ?_
   rintro o w2 ⟨rfl, H3⟩
   obtain ⟨a0, a1, a2, a3, a4, a5, a6, a7, a8, a9, af⟩ := box10 (H3.at 0 rfl)
   have al := lt_of_block (H3.at 0 rfl)
   obtain ⟨d0, d1, d2, d3, d4, d5, d6, d7, df⟩ := box8 (H3.at 1 rfl)
   have dl := lt_of_block (H3.at 1 rfl)
   cases I
   ·go_wp2_with fail
    go_meet
    exact ⟨rfl, H3⟩
   ·cases ss <;> cases send <;> cases so <;> cases ok
    all_goals
     go_wp2_with ((with_reducible refine (KD.out _ _ H3).mono ?_); rintro o w3 ⟨rfl, H4⟩)
     go_meet
     first | exact ⟨rfl, H4⟩ | exact ⟨rfl, H3⟩
  case rest =>
   obtain ⟨rfl, H2⟩ := hcut
   go_wp2_with fail
   refine (KF.out _ _ H2).mono ?_
   rintro o w2 ⟨rfl, H3⟩
   obtain ⟨O, hO⟩ : ∃ O, (I && (ss || !send) && (so || !ok) && !D) = O := ⟨_, rfl⟩
   have HQ' := HQ.out
   rw [hO] at HQ'
   have HP := Lib.hid HQ'
   simp only [hO]
   clear HQ' HQ hO
   obtain ⟨bs, hbs⟩ : ∃ b, w1.heap.size = b := ⟨_, rfl⟩
   rw [hbs] at H3
   simp only [hbs]
   clear hbs
   go_wp2_with fail
   go_loopw [5, 52] (fun q5 i wr => ∃ k : Nat, k ≤ 5 ∧ i = .int .i64 k ∧ q5 = .bool (okAt ⟨kind, g, chan, case_, value, mate, send, ok⟩ ⟨s0, s1, s2, s3, s4, s5, s6, s7, ss, so⟩ O k) ∧ SL wr [row bs #[.int .i64 s0, .int .i64 s1, .int .i64 s2, .int .i64 s3, .int .i64 s4, .int .i64 s5, .int .i64 s6, .int .i64 s7, .bool ss, .bool so] 112, row be #[.int .i64 kind, .int .i64 g, .int .i64 chan, .int .i64 case_, .int .i64 value, .int .i64 mate, .bool send, .bool ok] 53, Old w]) (fun _ i _ => 5 - (intOf i).toNat)
   case atStart => exact ⟨0, by omega, rfl, by simp [okAt], H3⟩
   case round =>
    obtain ⟨k, hk, rfl, rfl, H4⟩ := hrel
    obtain ⟨a0, a1, a2, a3, a4, a5, a6, a7, a8, a9, af⟩ := box10 (H4.at 0 rfl)
    have al := lt_of_block (H4.at 0 rfl)
    obtain ⟨d0, d1, d2, d3, d4, d5, d6, d7, df⟩ := box8 (H4.at 1 rfl)
    have dl := lt_of_block (H4.at 1 rfl)
    have hk' : k = 0 ∨ k = 1 ∨ k = 2 ∨ k = 3 ∨ k = 4 ∨ k = 5 := by omega
    rcases hk' with rfl | rfl | rfl | rfl | rfl | rfl
    ·have ix : ∀ w, (Instr.index 116 (.agg #[.pointer (some ⟨be, 1, none⟩), .pointer (some ⟨be, 2, none⟩), .pointer (some ⟨be, 3, none⟩), .pointer (some ⟨be, 4, none⟩), .pointer (some ⟨be, 5, none⟩)]) (.int .i64 0)).run Tryz.prog w = .ok (.pointer (some ⟨be, 1, none⟩)) w := fun _ => by kernel_rfl
     obtain ⟨B, hB⟩ : ∃ B, okAt ⟨kind, g, chan, case_, value, mate, send, ok⟩ ⟨s0, s1, s2, s3, s4, s5, s6, s7, ss, so⟩ O 0 = B := ⟨_, rfl⟩
     have hB1 : okAt ⟨kind, g, chan, case_, value, mate, send, ok⟩ ⟨s0, s1, s2, s3, s4, s5, s6, s7, ss, so⟩ O 1 = B := by rw [← hB]; simp [okAt]
     rw [hB]
     have HB := Lib.hid hB1
     clear hB hB1
     cases B
     ·go_wp2_with fail
      go_region
      go_wp2_with fail
      go_roundw
      case rel => exact ⟨1, by omega, by go_num, by rw [HB.out], H4.drew⟩
      case measure => simp [intOf] <;> omega
     ·go_wp2_with fail
      go_region
      go_wp2_with fail
      go_roundw
      case rel => exact ⟨1, by omega, by go_num, by rw [HB.out], H4.drew⟩
      case measure => simp [intOf] <;> omega
    ·have ix : ∀ w, (Instr.index 116 (.agg #[.pointer (some ⟨be, 1, none⟩), .pointer (some ⟨be, 2, none⟩), .pointer (some ⟨be, 3, none⟩), .pointer (some ⟨be, 4, none⟩), .pointer (some ⟨be, 5, none⟩)]) (.int .i64 1)).run Tryz.prog w = .ok (.pointer (some ⟨be, 2, none⟩)) w := fun _ => by kernel_rfl
     have hw : IntKind.i64.wrap (1 - 1) = 0 := by rfl
     have hw0 : IntKind.i64.wrap 0 = 0 := by rfl
     obtain ⟨B, hB⟩ : ∃ B, okAt ⟨kind, g, chan, case_, value, mate, send, ok⟩ ⟨s0, s1, s2, s3, s4, s5, s6, s7, ss, so⟩ O 1 = B := ⟨_, rfl⟩
     have hB1 : okAt ⟨kind, g, chan, case_, value, mate, send, ok⟩ ⟨s0, s1, s2, s3, s4, s5, s6, s7, ss, so⟩ O 2 = (B && inn s0 s1 chan) := by rw [← hB]; simp [okAt]
     rw [hB]
     have HB := Lib.hid hB1
     clear hB hB1
     cases B
     ·go_wp2_with fail
      go_region
      go_wp2_with fail
      go_roundw
      case rel => exact ⟨2, by omega, by go_num, by rw [HB.out]; rfl, H4.drew⟩
      case measure => simp [intOf] <;> omega
     ·go_wp2_with fail
      go_region_held3 (fun w' => w'.cell? ⟨bs, 0, none⟩ = some (.int .i64 s0) ∧ w'.cell? ⟨bs, 1, none⟩ = some (.int .i64 s1) ∧ w'.cell? ⟨be, 2, none⟩ = some (.int .i64 chan)) (first | go_keep | (go_split_ands; refine ⟨?_, ?_, ?_⟩ <;> assumption)) ((go_at_call 59; (with_reducible refine (KI.out _ _ H4.drew _ _ _).mono ?_); rintro o w3 ⟨rfl, H5⟩; obtain ⟨x0, x1, x2, x3, x4, x5, x6, x7, x8, x9, xf⟩ := box10 (H5.at 0 rfl); obtain ⟨y0, y1, y2, y3, y4, y5, y6, y7, yf⟩ := box8 (H5.at 1 rfl)))
      go_wp2_with fail
      go_roundw
      case rel => exact ⟨2, by omega, by go_num, by rw [HB.out, Bool.true_and], H5⟩
      case measure => simp [intOf] <;> omega
    ·have ix : ∀ w, (Instr.index 116 (.agg #[.pointer (some ⟨be, 1, none⟩), .pointer (some ⟨be, 2, none⟩), .pointer (some ⟨be, 3, none⟩), .pointer (some ⟨be, 4, none⟩), .pointer (some ⟨be, 5, none⟩)]) (.int .i64 2)).run Tryz.prog w = .ok (.pointer (some ⟨be, 3, none⟩)) w := fun _ => by kernel_rfl
     have hw : IntKind.i64.wrap (2 - 1) = 1 := by rfl
     have hw0 : IntKind.i64.wrap 1 = 1 := by rfl
     obtain ⟨B, hB⟩ : ∃ B, okAt ⟨kind, g, chan, case_, value, mate, send, ok⟩ ⟨s0, s1, s2, s3, s4, s5, s6, s7, ss, so⟩ O 2 = B := ⟨_, rfl⟩
     have hB1 : okAt ⟨kind, g, chan, case_, value, mate, send, ok⟩ ⟨s0, s1, s2, s3, s4, s5, s6, s7, ss, so⟩ O 3 = (B && inn s2 s3 case_) := by rw [← hB]; simp [okAt]
     rw [hB]
     have HB := Lib.hid hB1
     clear hB hB1
     cases B
     ·go_wp2_with fail
      go_region
      go_wp2_with fail
      go_roundw
      case rel => exact ⟨3, by omega, by go_num, by rw [HB.out]; rfl, H4.drew⟩
      case measure => simp [intOf] <;> omega
     ·go_wp2_with fail
      go_region_held3 (fun w' => w'.cell? ⟨bs, 2, none⟩ = some (.int .i64 s2) ∧ w'.cell? ⟨bs, 3, none⟩ = some (.int .i64 s3) ∧ w'.cell? ⟨be, 3, none⟩ = some (.int .i64 case_)) (first | go_keep | (go_split_ands; refine ⟨?_, ?_, ?_⟩ <;> assumption)) ((go_at_call 59; (with_reducible refine (KI.out _ _ H4.drew _ _ _).mono ?_); rintro o w3 ⟨rfl, H5⟩; obtain ⟨x0, x1, x2, x3, x4, x5, x6, x7, x8, x9, xf⟩ := box10 (H5.at 0 rfl); obtain ⟨y0, y1, y2, y3, y4, y5, y6, y7, yf⟩ := box8 (H5.at 1 rfl)))
      go_wp2_with fail
      go_roundw
      case rel => exact ⟨3, by omega, by go_num, by rw [HB.out, Bool.true_and], H5⟩
      case measure => simp [intOf] <;> omega
    ·have ix : ∀ w, (Instr.index 116 (.agg #[.pointer (some ⟨be, 1, none⟩), .pointer (some ⟨be, 2, none⟩), .pointer (some ⟨be, 3, none⟩), .pointer (some ⟨be, 4, none⟩), .pointer (some ⟨be, 5, none⟩)]) (.int .i64 3)).run Tryz.prog w = .ok (.pointer (some ⟨be, 4, none⟩)) w := fun _ => by kernel_rfl
     have hw : IntKind.i64.wrap (3 - 1) = 2 := by rfl
     have hw0 : IntKind.i64.wrap 2 = 2 := by rfl
     obtain ⟨B, hB⟩ : ∃ B, okAt ⟨kind, g, chan, case_, value, mate, send, ok⟩ ⟨s0, s1, s2, s3, s4, s5, s6, s7, ss, so⟩ O 3 = B := ⟨_, rfl⟩
     have hB1 : okAt ⟨kind, g, chan, case_, value, mate, send, ok⟩ ⟨s0, s1, s2, s3, s4, s5, s6, s7, ss, so⟩ O 4 = (B && inn s4 s5 value) := by rw [← hB]; simp [okAt]
     rw [hB]
     have HB := Lib.hid hB1
     clear hB hB1
     cases B
     ·go_wp2_with fail
      go_region
      go_wp2_with fail
      go_roundw
      case rel => exact ⟨4, by omega, by go_num, by rw [HB.out]; rfl, H4.drew⟩
      case measure => simp [intOf] <;> omega
     ·go_wp2_with fail
      go_region_held3 (fun w' => w'.cell? ⟨bs, 4, none⟩ = some (.int .i64 s4) ∧ w'.cell? ⟨bs, 5, none⟩ = some (.int .i64 s5) ∧ w'.cell? ⟨be, 4, none⟩ = some (.int .i64 value)) (first | go_keep | (go_split_ands; refine ⟨?_, ?_, ?_⟩ <;> assumption)) ((go_at_call 59; (with_reducible refine (KI.out _ _ H4.drew _ _ _).mono ?_); rintro o w3 ⟨rfl, H5⟩; obtain ⟨x0, x1, x2, x3, x4, x5, x6, x7, x8, x9, xf⟩ := box10 (H5.at 0 rfl); obtain ⟨y0, y1, y2, y3, y4, y5, y6, y7, yf⟩ := box8 (H5.at 1 rfl)))
      go_wp2_with fail
      go_roundw
      case rel => exact ⟨4, by omega, by go_num, by rw [HB.out, Bool.true_and], H5⟩
      case measure => simp [intOf] <;> omega
    ·have ix : ∀ w, (Instr.index 116 (.agg #[.pointer (some ⟨be, 1, none⟩), .pointer (some ⟨be, 2, none⟩), .pointer (some ⟨be, 3, none⟩), .pointer (some ⟨be, 4, none⟩), .pointer (some ⟨be, 5, none⟩)]) (.int .i64 4)).run Tryz.prog w = .ok (.pointer (some ⟨be, 5, none⟩)) w := fun _ => by kernel_rfl
     have hw : IntKind.i64.wrap (4 - 1) = 3 := by rfl
     have hw0 : IntKind.i64.wrap 3 = 3 := by rfl
     obtain ⟨B, hB⟩ : ∃ B, okAt ⟨kind, g, chan, case_, value, mate, send, ok⟩ ⟨s0, s1, s2, s3, s4, s5, s6, s7, ss, so⟩ O 4 = B := ⟨_, rfl⟩
     have hB1 : okAt ⟨kind, g, chan, case_, value, mate, send, ok⟩ ⟨s0, s1, s2, s3, s4, s5, s6, s7, ss, so⟩ O 5 = (B && inn s6 s7 mate) := by rw [← hB]; simp [okAt]
     rw [hB]
     have HB := Lib.hid hB1
     clear hB hB1
     cases B
     ·go_wp2_with fail
      go_region
      go_wp2_with fail
      go_roundw
      case rel => exact ⟨5, by omega, by go_num, by rw [HB.out]; rfl, H4.drew⟩
      case measure => simp [intOf] <;> omega
     ·go_wp2_with fail
      go_region_held3 (fun w' => w'.cell? ⟨bs, 6, none⟩ = some (.int .i64 s6) ∧ w'.cell? ⟨bs, 7, none⟩ = some (.int .i64 s7) ∧ w'.cell? ⟨be, 5, none⟩ = some (.int .i64 mate)) (first | go_keep | (go_split_ands; refine ⟨?_, ?_, ?_⟩ <;> assumption)) ((go_at_call 59; (with_reducible refine (KI.out _ _ H4.drew _ _ _).mono ?_); rintro o w3 ⟨rfl, H5⟩; obtain ⟨x0, x1, x2, x3, x4, x5, x6, x7, x8, x9, xf⟩ := box10 (H5.at 0 rfl); obtain ⟨y0, y1, y2, y3, y4, y5, y6, y7, yf⟩ := box8 (H5.at 1 rfl)))
      go_wp2_with fail
      go_roundw
      case rel => exact ⟨5, by omega, by go_num, by rw [HB.out, Bool.true_and], H5⟩
      case measure => simp [intOf] <;> omega
    ·obtain ⟨B, hB⟩ : ∃ B, okAt ⟨kind, g, chan, case_, value, mate, send, ok⟩ ⟨s0, s1, s2, s3, s4, s5, s6, s7, ss, so⟩ O 5 = B := ⟨_, rfl⟩
     have HQ' := HP.out
     rw [hB] at HQ' ⊢
     have HB := Lib.hid HQ'
     clear hB HQ'
     cases B
     all_goals
      go_wp2_with fail
      go_ret
      exact ⟨by rw [HB.out]; rfl, SL.old H4.tl.tl⟩
theorem e_check (e : Ev) (w : World) (hs : Spans w) : Calls Tryz.prog 24 #[e.agg] w fun o w' => o = .returned (.int .i64 (entF e)) ∧ Frm Nil w w' := by
 by_cases h : e.kind < 1 ∨ 13 < e.kind
 ·have : entF e = 1 := by unfold entF; rw [if_pos h]
  rw [this]
  exact e_check_bad e w h
 ·exact e_check_ok e w hs (by omega) (by omega)
end Go.Proofs.YtchkaaeoffmjnaaGreatDoor
namespace Go.Proofs.YtchkaaeoffmjnaaGreatDoor
set_option linter.unusedVariables false
set_option linter.unusedSimpArgs false
open Go.RowKit
set_option maxRecDepth 100000
/-- Where A lies the program's three spans stand. -/
def SpansA (A : Piece) : Prop := ∀ w, SL w [A] → Spans w
end Go.Proofs.YtchkaaeoffmjnaaGreatDoor
namespace Go.Proofs.YtchkaaeoffmjnaaGreatDoor
set_option linter.unusedVariables false
set_option linter.unusedSimpArgs false
theorem e_checkS {w : World} {L : List Piece} {A : Piece} (hG : SpansA A) (H : SL w L) (i : Nat) (hi : L[i]? = some A) (e : Ev) : Calls Tryz.prog 24 #[e.agg] w fun o w' => o = .returned (.int .i64 (entF e)) ∧ SL w' L :=
 (e_check e _ (hG _ (SL.one H i hi))).mono fun _ _ q => ⟨q.1, H.later q.2⟩
end Go.Proofs.YtchkaaeoffmjnaaGreatDoor
