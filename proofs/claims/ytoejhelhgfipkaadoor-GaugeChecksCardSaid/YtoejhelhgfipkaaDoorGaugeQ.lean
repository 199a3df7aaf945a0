/- Gauge, plain: rule by rule the same. -/
import Derived.Test.YtoejhelhgfipkaaDoorGaugeP
namespace Go.Proofs.YtoejhelhgfipkaaDoor
set_option linter.unusedVariables false
set_option linter.unusedSimpArgs false

structure Rt (e : Ev) : Prop where
  k0 : 1 ≤ e.kind
  k1 : e.kind ≤ 13
  g : e.kind ≠ 13 → 0 ≤ e.g ∧ e.g ≤ 511
  c0 : -1 ≤ e.chan
  cc : e.kind = 2 ∨ e.kind = 3 ∨ e.kind = 4 ∨ e.kind = 5 ∨ e.kind = 7 → 0 ≤ e.chan
  s3 : e.kind = 3 → e.send = true
  s4 : e.kind = 4 → e.send = false
  m4 : e.kind = 4 → e.ok = false → e.mate = -1
  v2 : e.kind = 2 → 0 ≤ e.value

set_option maxHeartbeats 4000000 in
theorem Rt.of {e : Ev} (h : ref12 e = 0) : Rt e := by
  obtain ⟨kind, g, chan, case_, value, mate, send, ok⟩ := e
  unfold ref12 at h
  by_cases hh : kind < 1 ∨ 13 < kind
  · rw [if_pos hh] at h
    simp at h
  · rw [if_neg hh] at h
    have hk : kind = 1 ∨ kind = 2 ∨ kind = 3 ∨ kind = 4 ∨ kind = 5 ∨ kind = 6 ∨ kind = 7 ∨ kind = 8 ∨ kind = 9 ∨ kind = 10 ∨ kind = 11 ∨ kind = 12 ∨ kind = 13 := by omega
    clear hh
    by_cases h2 : (okF ⟨kind, g, chan, case_, value, mate, send, ok⟩ && (if kind = 13 then g == -1 else inn 0 511 g)) = true
    · clear h
      rcases hk with rfl | rfl | rfl | rfl | rfl | rfl | rfl | rfl | rfl | rfl | rfl | rfl | rfl <;> cases send <;> cases ok <;> simp [okF, inn] at h2 <;> constructor <;> simp <;> omega
    · rw [if_neg h2] at h
      simp at h

structure InvG (l : List Ev) (i : Nat) (r : RdrM) : Prop where
  over : ∀ g, r.over = (goR l g i).over
  there : ∀ g, (goR l g i).there = r.crew.length
  crew : r.over = false → ∀ g : Nat, g < r.crew.length → r.crew[g]? = some ((goR l g i).waits, (goR l g i).exited)
  new : ∀ g : Nat, r.crew.length ≤ g → (goR l g i).waits = false ∧ (goR l g i).exited = false
  makes : r.chans.length = makesR l i
  ins : ∀ c : Nat, c < r.chans.length → r.chans[c]? = some ⟨(insR l c i).size, (insR l c i).buf, (insR l c i).closed⟩
  insNew : ∀ c : Nat, r.chans.length ≤ c → (insR l c i).buf = [] ∧ (insR l c i).closed = false
  closer : ∀ e, backR l e i = (r.closer.kind == 5 && e.mate == r.closer.g && e.chan == r.closer.chan)

theorem InvG.start (l : List Ev) : InvG l 0 (stG l 0) := by
  constructor
  · intro g; rfl
  · intro g; rfl
  · intro _ g hg
    have : g = 0 := by simp [stG] at hg; omega
    subst this
    rfl
  · intro g hg; exact ⟨rfl, rfl⟩
  · rfl
  · intro c hc; simp [stG] at hc
  · intro c hc; exact ⟨rfl, rfl⟩
  · intro e; rfl

section
variable {l : List Ev} {i : Nat} {r : RdrM}

theorem crewed_keeps (r : RdrM) (e : Ev) : (crewedF r e).2.chans = r.chans ∧ (crewedF r e).2.closer = r.closer := by
  unfold crewedF
  split
  · exact ⟨rfl, rfl⟩
  split
  · exact ⟨rfl, rfl⟩
  split
  · exact ⟨rfl, rfl⟩
  split
  · exact ⟨rfl, rfl⟩
  split
  · exact ⟨rfl, rfl⟩
  split
  · split <;> exact ⟨rfl, rfl⟩
  · exact ⟨rfl, rfl⟩

theorem crew_same (h : InvG l i r) (hr : Rt (l.getD i evz)) : (crewedF r (l.getD i evz)).1 = crewR l i := by
  unfold crewR crewedF
  obtain ⟨e, he⟩ : ∃ e, l.getD i evz = e := ⟨_, rfl⟩
  rw [he] at hr ⊢
  dsimp only
  rw [h.over e.g]
  split
  · rfl
  split
  · rfl
  · rename_i h1 h13
    have hg := hr.g h13
    obtain ⟨g, hgg⟩ : ∃ g : Nat, e.g = g := ⟨e.g.toNat, by omega⟩
    have ht := h.there (g : Int)
    rw [hgg, ht, Int.toNat_natCast]
    by_cases hlt : g < r.crew.length
    · have hc := h.crew (by rw [h.over e.g]; simpa using h1) g hlt
      rw [hc]
      have d : decide ((g : Int) < (r.crew.length : Int)) = true := by simp; exact hlt
      rw [d]
      dsimp only
      cases (goR l g i).exited
      · cases (goR l g i).waits <;> by_cases h12 : e.kind = 12 <;> by_cases h7 : e.kind = 7 <;> by_cases h1 : e.kind = 1 <;> by_cases hm : e.mate = r.crew.length <;> simp [h12, h7, h1, hm] <;> omega
      · simp
    · rw [List.getElem?_eq_none (by omega)]
      have d : decide ((g : Int) < (r.crew.length : Int)) = false := by simp; omega
      rw [d]
      rfl

theorem made_same (h : InvG l i r) (hr : Rt (l.getD i evz)) : (madeF (crewedF r (l.getD i evz)).2 (l.getD i evz)).1 = madeR l i := by
  have hk := (crewed_keeps r (l.getD i evz)).1
  unfold madeF madeR chanF
  rw [hk]
  obtain ⟨e, he⟩ : ∃ e, l.getD i evz = e := ⟨_, rfl⟩
  rw [he] at hr ⊢
  rw [h.makes]
  have hm := h.makes
  split
  · by_cases hc : e.chan = (makesR l i : Int)
    · rw [if_neg (by simpa using hc)]
      simp [hc]
    · rw [if_pos hc]
      simp [hc]
  · dsimp only
    have := hr.c0
    by_cases hc : e.chan < 0
    · have : e.chan = -1 := by omega
      rw [this]
      simp
      omega
    · rw [if_neg hc]
      have d1 : (e.chan == -1) = false := by rw [beq_eq_false_iff_ne]; omega
      rw [d1, Bool.false_or]
      by_cases hlt : e.chan < (makesR l i : Int)
      · rw [List.getElem?_eq_getElem (by omega), decide_eq_true hlt]
        rfl
      · rw [List.getElem?_eq_none (by omega), decide_eq_false hlt]
        rfl
end

end Go.Proofs.YtoejhelhgfipkaaDoor
