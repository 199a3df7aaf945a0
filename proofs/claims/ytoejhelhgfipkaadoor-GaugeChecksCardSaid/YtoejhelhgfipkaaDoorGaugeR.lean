/- Gauge, plain: rules 4 to 6 the same. -/
import Derived.Test.YtoejhelhgfipkaaDoorGaugeQ
namespace Go.Proofs.YtoejhelhgfipkaaDoor
set_option linter.unusedVariables false
set_option linter.unusedSimpArgs false

section
variable {l : List Ev} {i : Nat} {r r' : RdrM}

theorem prev_at (hi : i ≤ l.length) : prevF l i = if i = 0 then none else some (l.getD (i - 1) evz) := by
  unfold prevF
  split
  · rfl
  · rw [List.getD_eq_getElem?_getD, List.getElem?_eq_getElem (by omega)]
    rfl

theorem want_same (s e : Ev) : decide (e = wantF s e) = (e.kind == 7 && e.g == s.mate && e.mate == s.g && e.chan == s.chan && e.send != s.send && e.ok && (!s.send || e.value == s.value)) := by
  obtain ⟨kind, g, chan, case_, value, mate, send, ok⟩ := e
  obtain ⟨skind, sg, schan, scase, svalue, smate, ssend, sok⟩ := s
  rw [Bool.eq_iff_iff]
  unfold wantF
  cases ssend <;> cases send <;> cases ok <;> simp [Ev.mk.injEq] <;> omega

theorem served_same (h : InvG l i r) (hi : i < l.length) (hc : r'.closer = r.closer) : (servedF r' (prevF l i) (l.getD i evz)).1 = servedR l i := by
  unfold servedF servedR
  rw [prev_at (Nat.le_of_lt hi), hc]
  obtain ⟨e, he⟩ : ∃ e, l.getD i evz = e := ⟨_, rfl⟩
  rw [he]
  dsimp only
  by_cases h0 : 0 < i ∧ servesF (l.getD (i - 1) evz) = true
  · rw [if_pos h0, if_neg (by omega)]
    simp only [Option.filter, h0.2, if_true]
    exact want_same _ _
  · rw [if_neg h0]
    have hn : (if i = 0 then none else some (l.getD (i - 1) evz)).filter servesF = none := by
      by_cases hz : i = 0
      · rw [if_pos hz]; rfl
      · rw [if_neg hz]
        have : servesF (l.getD (i - 1) evz) = false := by
          cases hs : servesF (l.getD (i - 1) evz)
          · rfl
          · exact absurd ⟨by omega, hs⟩ h0
        simp only [Option.filter, this]
        rfl
    rw [hn]
    dsimp only
    by_cases h7 : e.kind = 7
    · rw [if_pos h7, if_neg (by simpa using h7)]
      have hb := h.closer e
      cases hs : e.send <;> cases ho : e.ok <;> simp [hb]
    · rw [if_neg h7, if_pos h7]

theorem next_at (hi : i < l.length) : nextF l i = if i + 1 = l.length then none else some (l.getD (i + 1) evz).value := by
  unfold nextF
  split
  · rw [List.getElem?_eq_none (by omega)]
    rfl
  · rw [List.getD_eq_getElem?_getD, List.getElem?_eq_getElem (by omega)]
    rfl

theorem take_same (hi : i < l.length) (s : InsM) (hk : ((l.getD i evz).kind = 3 ∧ (l.getD i evz).send = true) ∨ ((l.getD i evz).kind = 4 ∧ (l.getD i evz).send = false ∧ (l.getD i evz).ok = true)) :
    insStep l (l.getD i evz).chan i s = ⟨(takeF ⟨s.size, s.buf, s.closed⟩ (nextF l i) (l.getD i evz)).2.size, (takeF ⟨s.size, s.buf, s.closed⟩ (nextF l i) (l.getD i evz)).2.buf, (takeF ⟨s.size, s.buf, s.closed⟩ (nextF l i) (l.getD i evz)).2.closed, (takeF ⟨s.size, s.buf, s.closed⟩ (nextF l i) (l.getD i evz)).1⟩ := by
  unfold insStep takeF
  rw [next_at hi]
  obtain ⟨e, he⟩ : ∃ e, l.getD i evz = e := ⟨_, rfl⟩
  rw [he] at hk ⊢
  obtain ⟨ev, hev⟩ : ∃ ev, l.getD (i + 1) evz = ev := ⟨_, rfl⟩
  rw [hev]
  dsimp only
  rw [if_neg (by simp)]
  have f0 : ¬ (false = true) := by simp
  rcases hk with ⟨h3, hs⟩ | ⟨h4, hs, ho⟩
  · have a1 : ¬ e.kind = 2 := by omega
    have a2 : ¬ e.kind = 5 := by omega
    have a3 : ¬ (e.kind ≠ 3 ∧ (e.kind ≠ 4 ∨ e.ok = false)) := fun hh => hh.1 h3
    have a4 : ¬ e.kind = 4 := by omega
    rw [if_neg a1, if_neg a2, if_neg a3, if_pos h3, hs]
    simp only [if_true]
    obtain ⟨v, L, hL⟩ : ∃ v L, s.buf ++ [e.value] = v :: L := by
      cases s.buf with
      | nil => exact ⟨_, _, rfl⟩
      | cons a b => exact ⟨_, _, rfl⟩
    rw [hL]
    by_cases hm : 0 ≤ e.mate
    · have a5 : e.kind = 4 ∨ 0 ≤ e.mate := .inr hm
      rw [if_pos a5, decide_eq_true hm]
    · have a5 : ¬ (e.kind = 4 ∨ 0 ≤ e.mate) := by omega
      rw [if_neg a5, decide_eq_false hm]
      simp
  · have a1 : ¬ e.kind = 2 := by omega
    have a2 : ¬ e.kind = 5 := by omega
    have a3 : ¬ (e.kind ≠ 3 ∧ (e.kind ≠ 4 ∨ e.ok = false)) := fun hh => hh.2.elim (fun h => h h4) (fun h => by rw [ho] at h; cases h)
    have a4 : ¬ e.kind = 3 := by omega
    have a5 : e.kind = 4 ∨ 0 ≤ e.mate := .inl h4
    rw [if_neg a1, if_neg a2, if_neg a3, if_neg a4, if_pos a5, hs]
    simp only [if_neg f0]
    by_cases hm : 0 ≤ e.mate
    · rw [decide_eq_true hm]
      by_cases hl : i + 1 = l.length
      · have a6 : ¬ (0 ≤ e.mate ∧ decide (i + 1 = l.length) = false) := fun hh => by simp [hl] at hh
        rw [if_neg a6, if_pos hl, if_pos hm, decide_eq_true hl]
        cases s.buf <;> simp
      · have a6 : 0 ≤ e.mate ∧ decide (i + 1 = l.length) = false := ⟨hm, by simp [hl]⟩
        rw [if_pos a6, if_neg hl, if_pos hm]
        cases s.buf <;> simp
    · have a6 : ¬ (0 ≤ e.mate ∧ decide (i + 1 = l.length) = false) := fun hh => hm hh.1
      rw [if_neg a6, if_neg hm, decide_eq_false hm]
      cases s.buf <;> simp

theorem made_keeps (r : RdrM) (e : Ev) : (madeF r e).2.closer = r.closer ∧ (e.kind ≠ 2 → (madeF r e).2.chans = r.chans) := by
  unfold madeF
  split
  · rename_i h2
    split
    · exact ⟨rfl, fun h => absurd h2 h⟩
    · exact ⟨rfl, fun h => absurd h2 h⟩
  · exact ⟨rfl, fun _ => rfl⟩

theorem served_keeps (r : RdrM) (p : Option Ev) (e : Ev) : (servedF r p e).2.chans = r.chans := by
  unfold servedF
  split
  · rfl
  · split <;> rfl

theorem chan_at (h : InvG l i r) (hch : r'.chans = r.chans) {c : Int} (h0 : 0 ≤ c) (hlt : c < makesR l i) : chanF r' c = some ⟨(insR l c i).size, (insR l c i).buf, (insR l c i).closed⟩ := by
  obtain ⟨n, rfl⟩ : ∃ n : Nat, c = n := ⟨c.toNat, by omega⟩
  unfold chanF
  rw [if_neg (by omega), hch, Int.toNat_natCast]
  exact h.ins n (by have := h.makes; omega)

theorem ordered_same (h : InvG l i r) (hi : i < l.length) (hr : Rt (l.getD i evz)) (hch : (l.getD i evz).kind ≠ 2 → r'.chans = r.chans) (hm : madeR l i = true) : (orderedF r' (nextF l i) (l.getD i evz)).1 = orderedR l i := by
  unfold orderedR orderedF
  have hts := take_same hi (insR l (l.getD i evz).chan i)
  unfold madeR at hm
  have hin : insR l (l.getD i evz).chan (i + 1) = insStep l (l.getD i evz).chan i (insR l (l.getD i evz).chan i) := rfl
  dsimp only
  rw [hin]
  obtain ⟨e, he⟩ : ∃ e, l.getD i evz = e := ⟨_, rfl⟩
  rw [he] at hr hch hm hts ⊢
  by_cases hk : e.kind ≠ 3 ∧ (e.kind ≠ 4 ∨ e.ok = false)
  · rw [if_pos hk]
    split
    · rfl
    · rw [if_pos hk]
  · have h2 : e.kind ≠ 2 := by omega
    rw [if_neg h2] at hm
    have h34 : e.kind = 3 ∨ e.kind = 4 := by omega
    have hc0 := hr.cc (by omega)
    rw [if_neg hk, chan_at h (hch h2) hc0 (by simpa using hm)]
    dsimp only
    rw [if_neg hk, hts ?_]
    rcases h34 with h3 | h4
    · exact .inl ⟨h3, hr.s3 h3⟩
    · refine .inr ⟨h4, hr.s4 h4, ?_⟩
      cases ho : e.ok
      · exact absurd ⟨by omega, .inr ho⟩ hk
      · rfl

theorem ordered_keeps (r : RdrM) (n : Option Int) (e : Ev) : (orderedF r n e).2.closer = r.closer ∧ (orderedF r n e).2.crew = r.crew ∧ (orderedF r n e).2.over = r.over ∧ (e.kind ≠ 3 → (e.kind ≠ 4 ∨ e.ok = false) → (orderedF r n e).2 = r) := by
  unfold orderedF
  split
  · exact ⟨rfl, rfl, rfl, fun _ _ => rfl⟩
  · split
    · exact ⟨rfl, rfl, rfl, fun _ _ => rfl⟩
    · rename_i hk
      exact ⟨rfl, rfl, rfl, fun a b => absurd ⟨a, b⟩ hk⟩

/-- A channel behind rule 5: as it was but for what is in it. -/
theorem ordered_chan (h : InvG l i r) (hch : r'.chans = r.chans) {e : Ev} {n : Option Int} (h0 : 0 ≤ e.chan) (hlt : e.chan < makesR l i) :
    ∃ L, chanF (orderedF r' n e).2 e.chan = some ⟨(insR l e.chan i).size, L, (insR l e.chan i).closed⟩ ∧ (e.kind = 4 ∧ e.ok = false → L = (insR l e.chan i).buf) := by
  have hc := chan_at h hch h0 hlt
  unfold orderedF
  rw [hc]
  dsimp only
  split
  · exact ⟨_, hc, fun _ => rfl⟩
  · rename_i hk
    refine ⟨(takeF ⟨(insR l e.chan i).size, (insR l e.chan i).buf, (insR l e.chan i).closed⟩ n e).2.buf, ?_, fun hh => absurd ⟨by omega, .inr hh.2⟩ hk⟩
    unfold chanF
    rw [if_neg (by omega)]
    dsimp only
    rw [hch, List.getElem?_set_self (by have := h.makes; omega)]
    unfold takeF
    dsimp only
    split <;> rfl

theorem closed_same (h : InvG l i r) (hr : Rt (l.getD i evz)) (hch : (l.getD i evz).kind ≠ 2 → r'.chans = r.chans) (hm : madeR l i = true) : (closedF (orderedF r' (nextF l i) (l.getD i evz)).2 (l.getD i evz)).1 = closedR l i := by
  unfold closedR
  unfold madeR at hm
  obtain ⟨n, hn⟩ : ∃ n, nextF l i = n := ⟨_, rfl⟩
  rw [hn]
  obtain ⟨e, he⟩ : ∃ e, l.getD i evz = e := ⟨_, rfl⟩
  rw [he] at hr hch hm ⊢
  dsimp only
  by_cases hk : e.kind < 3 ∨ 5 < e.kind
  · rw [if_pos hk]
    unfold closedF
    split
    · rfl
    · have a1 : ¬ e.kind = 5 := by omega
      have a2 : ¬ (e.kind = 3 ∨ e.kind = 4 ∧ 0 ≤ e.mate) := by omega
      have a3 : ¬ (e.kind = 4 ∧ e.ok = false) := fun hh => by omega
      rw [if_neg a1, if_neg a2, if_neg a3]
  · have h2 : e.kind ≠ 2 := by omega
    rw [if_neg h2] at hm
    rw [if_neg hk]
    obtain ⟨L, hL, hb⟩ := ordered_chan (n := n) h (hch h2) (hr.cc (by omega)) (by simpa using hm)
    unfold closedF
    rw [hL]
    dsimp only
    by_cases h5 : e.kind = 5
    · have a3 : ¬ (e.kind = 4 ∧ e.ok = false) := fun hh => by omega
      have a4 : ¬ (e.kind = 4 ∧ e.mate < 0) := by omega
      rw [if_pos h5, if_neg a3, if_neg a4]
    · rw [if_neg h5]
      by_cases h3 : e.kind = 3
      · have a3 : ¬ (e.kind = 4 ∧ e.ok = false) := fun hh => by omega
        have a4 : ¬ (e.kind = 4 ∧ e.mate < 0) := by omega
        rw [if_pos (.inl h3), if_neg a3, if_neg a4]
      · have h4 : e.kind = 4 := by omega
        by_cases ho : e.ok = false
        · have hmm := hr.m4 h4 ho
          have a2 : ¬ (e.kind = 3 ∨ e.kind = 4 ∧ 0 ≤ e.mate) := by omega
          rw [if_neg a2, if_pos ⟨h4, ho⟩, if_pos ⟨h4, ho⟩, hb ⟨h4, ho⟩]
        · have a3 : ¬ (e.kind = 4 ∧ e.ok = false) := fun hh => ho hh.2
          rw [if_neg a3, if_neg a3]
          by_cases hmm : 0 ≤ e.mate
          · have a4 : ¬ (e.kind = 4 ∧ e.mate < 0) := by omega
            rw [if_pos (.inr ⟨h4, hmm⟩), if_neg a4]
          · have a2 : ¬ (e.kind = 3 ∨ e.kind = 4 ∧ 0 ≤ e.mate) := by omega
            have a4 : e.kind = 4 ∧ e.mate < 0 := by omega
            rw [if_neg a2, if_pos a4]
end

end Go.Proofs.YtoejhelhgfipkaaDoor
