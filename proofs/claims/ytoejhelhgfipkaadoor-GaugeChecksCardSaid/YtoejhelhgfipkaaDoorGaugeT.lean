/- Gauge, plain: channels and closers go on; both say the same of each trace. -/
import Derived.Test.YtoejhelhgfipkaaDoorGaugeS
namespace Go.Proofs.YtoejhelhgfipkaaDoor
set_option linter.unusedVariables false
set_option linter.unusedSimpArgs false

section
variable {l : List Ev} {i : Nat} {r r1 : RdrM}

structure ChanInv (l : List Ev) (i : Nat) (L : List ChnM) : Prop where
  makes : L.length = makesR l i
  ins : ∀ c : Nat, c < L.length → L[c]? = some ⟨(insR l c i).size, (insR l c i).buf, (insR l c i).closed⟩
  insNew : ∀ c : Nat, L.length ≤ c → (insR l c i).buf = [] ∧ (insR l c i).closed = false

theorem closed_keeps (r : RdrM) (e : Ev) : (closedF r e).2.closer = r.closer ∧ (closedF r e).2.crew = r.crew ∧ (closedF r e).2.over = r.over ∧ (e.kind ≠ 5 → (closedF r e).2 = r) := by
  unfold closedF
  split
  · exact ⟨rfl, rfl, rfl, fun _ => rfl⟩
  · split
    · rename_i h5
      exact ⟨rfl, rfl, rfl, fun h => absurd h5 h⟩
    · split
      · exact ⟨rfl, rfl, rfl, fun _ => rfl⟩
      · split <;> exact ⟨rfl, rfl, rfl, fun _ => rfl⟩

theorem ins_other {c : Int} (hc : (l.getD i evz).chan ≠ c) : insR l c (i + 1) = insR l c i := by
  show insStep l c i (insR l c i) = _
  unfold insStep
  dsimp only
  rw [if_pos hc]

theorem makes_keep (h2 : (l.getD i evz).kind ≠ 2) : makesR l (i + 1) = makesR l i := by
  show (if (l.getD i evz).kind = 2 then makesR l i + 1 else makesR l i) = _
  rw [if_neg h2]

theorem chan_step (h : InvG l i r) (hi : i < l.length) (hr : Rt (l.getD i evz)) (hch : r1.chans = r.chans) {p : Option Ev} (hm : madeR l i = true) :
    ChanInv l (i + 1) (closedF (orderedF (servedF (madeF r1 (l.getD i evz)).2 p (l.getD i evz)).2 (nextF l i) (l.getD i evz)).2 (l.getD i evz)).2.chans := by
  have hmk := made_keeps r1 (l.getD i evz)
  have hsk := served_keeps (madeF r1 (l.getD i evz)).2 p (l.getD i evz)
  have hio := @ins_other l i
  have hts := take_same hi (insR l (l.getD i evz).chan i)
  have hst : insR l (l.getD i evz).chan (i + 1) = insStep l (l.getD i evz).chan i (insR l (l.getD i evz).chan i) := rfl
  have hmR := hm
  unfold madeR at hm
  by_cases h2 : (l.getD i evz).kind = 2
  · have hmm : makesR l (i + 1) = makesR l i + 1 := by
      show (if (l.getD i evz).kind = 2 then makesR l i + 1 else makesR l i) = _
      rw [if_pos h2]
    rw [if_pos h2] at hm
    have hc : (l.getD i evz).chan = (makesR l i : Int) := by simpa using hm
    have e1 : (madeF r1 (l.getD i evz)).2.chans = r.chans ++ [⟨(l.getD i evz).value, [], false⟩] := by
      unfold madeF
      rw [if_pos h2, if_neg (by rw [hch, h.makes]; simpa using hc)]
      dsimp only
      rw [hch]
    obtain ⟨r2, hr2⟩ : ∃ r2, (servedF (madeF r1 (l.getD i evz)).2 p (l.getD i evz)).2 = r2 := ⟨_, rfl⟩
    rw [hr2] at hsk ⊢
    rw [(ordered_keeps r2 (nextF l i) (l.getD i evz)).2.2.2 (by omega) (.inl (by omega)), (closed_keeps r2 (l.getD i evz)).2.2.2 (by omega), hsk, e1]
    have hlen := h.makes
    constructor
    · simp [hmm, hlen]
    · intro c hcl
      simp only [List.length_append, List.length_singleton] at hcl
      by_cases hcc : c < r.chans.length
      · rw [List.getElem?_append_left hcc, hio (by omega)]
        exact h.ins c hcc
      · have : c = makesR l i := by omega
        subst this
        rw [List.getElem?_append_right (by omega), hlen, Nat.sub_self]
        rw [← hc, hst]
        obtain ⟨v1, v2⟩ := h.insNew (makesR l i) (by omega)
        rw [← hc] at v1 v2
        unfold insStep
        dsimp only
        have a2 : (l.getD i evz).kind ≠ 3 ∧ ((l.getD i evz).kind ≠ 4 ∨ (l.getD i evz).ok = false) := ⟨by omega, .inl (by omega)⟩
        have a3 : ¬ (l.getD i evz).kind = 5 := by omega
        rw [if_neg (fun hh => hh rfl), if_pos a2]
        dsimp only
        rw [if_pos h2, if_neg a3, v1, v2]
        rfl
    · intro c hcl
      simp only [List.length_append, List.length_singleton] at hcl
      rw [hio (by omega)]
      exact h.insNew c (by omega)
  · have hmm : makesR l (i + 1) = makesR l i := makes_keep h2
    rw [if_neg h2] at hm
    have hc : (l.getD i evz).chan < (makesR l i : Int) := by simpa using hm
    have hc1 := hr.c0
    obtain ⟨r2, hr2⟩ : ∃ r2, (servedF (madeF r1 (l.getD i evz)).2 p (l.getD i evz)).2 = r2 := ⟨_, rfl⟩
    rw [hr2] at hsk ⊢
    have e2 : r2.chans = r.chans := by rw [hsk, hmk.2 h2, hch]
    have hlen := h.makes
    by_cases h5 : (l.getD i evz).kind = 5
    · have hc0 := hr.cc (.inr (.inr (.inr (.inl h5))))
      obtain ⟨n, hn⟩ : ∃ n : Nat, (l.getD i evz).chan = n := ⟨(l.getD i evz).chan.toNat, by omega⟩
      rw [(ordered_keeps r2 (nextF l i) (l.getD i evz)).2.2.2 (by omega) (.inl (by omega))]
      have e3 : (closedF r2 (l.getD i evz)).2.chans = r.chans.set n ⟨(insR l n i).size, (insR l n i).buf, true⟩ := by
        unfold closedF
        rw [chan_at h e2 hc0 hc]
        dsimp only
        rw [if_pos h5]
        dsimp only
        rw [e2, hn, Int.toNat_natCast]
      rw [e3]
      constructor
      · rw [List.length_set, hmm, hlen]
      · intro c hcl
        rw [List.length_set] at hcl
        by_cases hcn : c = n
        · subst hcn
          rw [List.getElem?_set_self hcl, ← hn, hst]
          unfold insStep
          dsimp only
          have a2 : (l.getD i evz).kind ≠ 3 ∧ ((l.getD i evz).kind ≠ 4 ∨ (l.getD i evz).ok = false) := ⟨by omega, .inl (by omega)⟩
          rw [if_neg (fun hh => hh rfl), if_pos a2]
          dsimp only
          rw [if_neg h2, if_pos h5]
        · rw [List.getElem?_set_ne (by omega), hio (by omega)]
          exact h.ins c hcl
      · intro c hcl
        rw [List.length_set] at hcl
        rw [hio (by omega)]
        exact h.insNew c hcl
    · rw [(closed_keeps _ (l.getD i evz)).2.2.2 h5]
      by_cases hk : (l.getD i evz).kind ≠ 3 ∧ ((l.getD i evz).kind ≠ 4 ∨ (l.getD i evz).ok = false)
      · rw [(ordered_keeps r2 (nextF l i) (l.getD i evz)).2.2.2 hk.1 hk.2, e2]
        have hsame : ∀ c : Int, (insR l c (i + 1)).size = (insR l c i).size ∧ (insR l c (i + 1)).buf = (insR l c i).buf ∧ (insR l c (i + 1)).closed = (insR l c i).closed := fun c => by
          by_cases hcc : (l.getD i evz).chan = c
          · subst hcc
            rw [hst]
            unfold insStep
            dsimp only
            rw [if_neg (fun hh => hh rfl), if_pos hk]
            dsimp only
            rw [if_neg h2, if_neg h5]
            exact ⟨rfl, rfl, rfl⟩
          · rw [hio hcc]
            exact ⟨rfl, rfl, rfl⟩
        constructor
        · rw [hmm, hlen]
        · intro c hcl
          obtain ⟨a, b, d⟩ := hsame c
          rw [a, b, d]
          exact h.ins c hcl
        · intro c hcl
          obtain ⟨a, b, d⟩ := hsame c
          rw [b, d]
          exact h.insNew c hcl
      · have h34 : (l.getD i evz).kind = 3 ∨ (l.getD i evz).kind = 4 := by omega
        have hc0 := hr.cc (by omega)
        obtain ⟨n, hn⟩ : ∃ n : Nat, (l.getD i evz).chan = n := ⟨(l.getD i evz).chan.toNat, by omega⟩
        have hts := hts (by
          rcases h34 with h3 | h4
          · exact .inl ⟨h3, hr.s3 h3⟩
          · refine .inr ⟨h4, hr.s4 h4, ?_⟩
            cases ho : (l.getD i evz).ok
            · exact absurd ⟨by omega, .inr ho⟩ hk
            · rfl)
        have e3 : (orderedF r2 (nextF l i) (l.getD i evz)).2.chans = r.chans.set n (takeF ⟨(insR l (l.getD i evz).chan i).size, (insR l (l.getD i evz).chan i).buf, (insR l (l.getD i evz).chan i).closed⟩ (nextF l i) (l.getD i evz)).2 := by
          unfold orderedF
          rw [chan_at h e2 hc0 hc]
          dsimp only
          rw [if_neg hk]
          dsimp only
          rw [e2]
          congr 1
          omega
        rw [e3]
        constructor
        · rw [List.length_set, hmm, hlen]
        · intro c hcl
          rw [List.length_set] at hcl
          by_cases hcn : c = n
          · subst hcn
            rw [List.getElem?_set_self hcl, ← hn, hst, hts]
          · rw [List.getElem?_set_ne (by omega), hio (by omega)]
            exact h.ins c hcl
        · intro c hcl
          rw [List.length_set] at hcl
          rw [hio (by omega)]
          exact h.insNew c hcl
end

end Go.Proofs.YtoejhelhgfipkaaDoor
