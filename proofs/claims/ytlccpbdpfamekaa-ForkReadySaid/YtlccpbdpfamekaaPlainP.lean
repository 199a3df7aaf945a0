/- Layer 9, plain: what a pipe's model keeps, step by step; no Go in it. -/
import Derived.Test.YtlccpbdpfamekaaRefF
namespace Go.Proofs.Ytlccpbdpfamekaa
set_option linter.unusedVariables false
set_option linter.unusedSimpArgs false
open Go.RowKit

structure Inv9 (n : Nat) (x : PipeM) : Prop where
  size : x.size ≤ 4
  buf : x.buf.length ≤ x.size
  snd : Fine x.senders
  rcv : Fine x.receivers
  s0 : 0 ≤ x.sent
  s1 : x.sent ≤ n
  r0 : 0 ≤ x.received
  r1 : x.received ≤ n
  cl : x.closed = true → x.senders = [] ∧ x.receivers = []
  re : x.receivers ≠ [] → x.buf = []
  se : x.senders ≠ [] → x.buf.length = x.size
  own : ∀ a ∈ x.senders, ∀ b ∈ x.receivers, a.g = b.g

theorem Fine.nil : Fine [] := ⟨by simp, by simp⟩
theorem Fine.tail {m : Wtr} {l : List Wtr} (h : Fine (m :: l)) : Fine l := ⟨by have := h.1; simp at this; omega, fun x hx => h.2 x (List.mem_cons_of_mem _ hx)⟩

theorem Inv9.empty {z : Nat} (h : z ≤ 4) : Inv9 0 (emptyM z) :=
  ⟨h, Nat.zero_le _, Fine.nil, Fine.nil, by simp [emptyM], by simp [emptyM], by simp [emptyM], by simp [emptyM], fun h => ⟨rfl, rfl⟩, fun h => rfl, fun h => absurd rfl h, fun a h => by simp [emptyM] at h⟩

theorem Inv9.more {n k : Nat} {x : PipeM} (h : Inv9 n x) (hk : n ≤ k) : Inv9 k x := { h with s1 := by have := h.s1; omega, r1 := by have := h.r1; omega }

theorem Inv9.send {n : Nat} {x : PipeM} (h : Inv9 n x) (v : Int) : Inv9 (n + 1) (sendF x v).2 := by
  unfold sendF
  by_cases hc : x.closed = true
  · rw [if_pos hc]
    exact h.more (by omega)
  · rw [if_neg hc]
    have s0 := h.s0; have s1 := h.s1; have r0 := h.r0; have r1 := h.r1
    rcases hr : x.receivers with _ | ⟨m, l⟩
    · dsimp only
      by_cases hz : x.buf.length < x.size
      · rw [if_pos hz]
        exact { h with buf := by simp; omega, rcv := Fine.nil, s0 := by dsimp only; omega, s1 := by dsimp only; omega, r1 := by dsimp only; omega, cl := fun hh => absurd hh hc, re := fun hh => absurd rfl hh, se := fun hh => by have := h.se hh; omega, own := fun a _ b hb => by cases hb }
      · rw [if_neg hz]
        exact h.more (by omega)
    · dsimp only
      have hre := h.re (by rw [hr]; simp)
      exact { h with rcv := by have := h.rcv; rw [hr] at this; exact this.tail, s0 := by dsimp only; omega, s1 := by dsimp only; omega, r0 := by dsimp only; omega, r1 := by dsimp only; omega, cl := fun hh => absurd hh hc, re := fun hh => hre, own := fun a ha b hb => h.own a ha b (by rw [hr]; exact List.mem_cons_of_mem _ hb) }

theorem Inv9.recv {n : Nat} {x : PipeM} (h : Inv9 n x) : Inv9 (n + 1) (recvF x).2 := by
  unfold recvF
  have s0 := h.s0; have s1 := h.s1; have r0 := h.r0; have r1 := h.r1
  rcases hb : x.buf with _ | ⟨a, L⟩
  · rcases hs : x.senders with _ | ⟨m, l⟩
    · dsimp only
      by_cases hc : x.closed = true
      · rw [if_pos hc]
        exact h.more (by omega)
      · rw [if_neg hc]
        exact h.more (by omega)
    · have hc : ¬ x.closed = true := fun hh => by have := (h.cl hh).1; rw [hs] at this; cases this
      have hse := h.se (by rw [hs]; simp)
      rw [hb] at hse
      dsimp only
      exact { h with buf := by simp, re := fun _ => rfl, snd := by have := h.snd; rw [hs] at this; exact this.tail, s0 := by dsimp only; omega, s1 := by dsimp only; omega, r0 := by dsimp only; omega, r1 := by dsimp only; omega, cl := fun hh => absurd hh hc, se := fun hh => hse, own := fun c hc' b hb' => h.own c (by rw [hs]; exact List.mem_cons_of_mem _ hc') b hb' }
  · have hr : x.receivers = [] := Classical.byContradiction fun hh => by have := h.re hh; rw [hb] at this; cases this
    have hbl := h.buf
    rw [hb] at hbl
    simp at hbl
    rcases hs : x.senders with _ | ⟨m, l⟩
    · dsimp only
      exact { h with buf := by dsimp only; omega, snd := Fine.nil, s0 := s0, s1 := by dsimp only; omega, r0 := by dsimp only; omega, r1 := by dsimp only; omega, cl := fun hh => ⟨rfl, (h.cl hh).2⟩, re := fun hh => absurd hr hh, se := fun hh => absurd rfl hh, own := fun a ha => by cases ha }
    · have hc : ¬ x.closed = true := fun hh => by have := (h.cl hh).1; rw [hs] at this; cases this
      have hse := h.se (by rw [hs]; simp)
      rw [hb] at hse
      simp at hse
      dsimp only
      exact { h with buf := by simp; omega, snd := by have := h.snd; rw [hs] at this; exact this.tail, s0 := by dsimp only; omega, s1 := by dsimp only; omega, r0 := by dsimp only; omega, r1 := by dsimp only; omega, cl := fun hh => absurd hh hc, re := fun hh => absurd hr hh, se := fun hh => by simp; omega, own := fun c hc' b hb' => h.own c (by rw [hs]; exact List.mem_cons_of_mem _ hc') b hb' }

theorem without_nil {g : Int} {L : List Wtr} : (¬ 0 < (without g L).length) ↔ ∀ b ∈ L, b.g = g := by
  unfold without
  rw [Nat.not_lt, Nat.le_zero_eq, List.length_eq_zero_iff, List.filter_eq_nil_iff]
  exact ⟨fun h b hb => by have := h b hb; simpa using this, fun h b hb => by simp [h b hb]⟩

theorem any_not {g : Int} {L : List Wtr} : (L.any (fun m => !(m.g == g))) = decide (0 < (without g L).length) := by
  rw [Bool.eq_iff_iff, decide_eq_true_iff, List.any_eq_true]
  constructor
  · rintro ⟨b, hb, hn⟩
    apply Classical.byContradiction
    intro hh
    have := without_nil.1 hh b hb
    simp [this] at hn
  · intro hh
    apply Classical.byContradiction
    intro hno
    refine absurd hh (without_nil.2 fun b hb => ?_)
    apply Classical.byContradiction
    intro hg
    exact hno ⟨b, hb, by simpa using hg⟩

theorem wait_eq {n : Nat} {x : PipeM} (h : Inv9 n x) (s : Bool) (m : Wtr) : waitF x s m = rwaitF x s m := by
  have key : (readyF x s && !aloneF x (!s) m.g) = (x.closed || (if s then decide (x.buf.length < x.size) else decide (0 < x.buf.length)) || decide (0 < (without m.g (if s then x.receivers else x.senders)).length)) := by
    have hb := h.buf
    unfold readyF aloneF
    cases s
    · simp only [Bool.not_false, Bool.false_eq_true, if_false, if_true]
      rw [any_not]
      by_cases hc : x.closed = true
      · simp [hc]
      · have hc' : x.closed = false := by simpa using hc
        simp only [hc', Bool.not_false, Bool.true_and, Bool.false_or]
        by_cases h1 : 0 < x.buf.length
        · have hz : ¬ x.size = 0 := by omega
          simp [h1, hz]
        · by_cases h2 : 0 < x.senders.length
          · have := h.se (by intro e; rw [e] at h2; simp at h2)
            have hz : x.size = 0 := by omega
            simp [h1, h2, hz]
          · have hs : x.senders = [] := List.eq_nil_of_length_eq_zero (by omega)
            simp [hs, h1, without]
    · simp only [Bool.not_true, Bool.false_eq_true, if_false, if_true]
      rw [any_not]
      by_cases hc : x.closed = true
      · simp [hc]
      · have hc' : x.closed = false := by simpa using hc
        simp only [hc', Bool.not_false, Bool.true_and, Bool.false_or]
        by_cases h1 : x.buf.length < x.size
        · have hz : ¬ x.size = 0 := by omega
          simp [h1, hz]
        · by_cases h2 : 0 < x.receivers.length
          · have := h.re (by intro e; rw [e] at h2; simp at h2)
            have hz : x.size = 0 := by rw [this] at h1; simp at h1; omega
            simp [h1, h2, hz]
          · have hs : x.receivers = [] := List.eq_nil_of_length_eq_zero (by omega)
            simp [hs, h1, without]
  unfold waitF rwaitF
  rw [key]
  by_cases hc : (x.closed || (if s then decide (x.buf.length < x.size) else decide (0 < x.buf.length)) || decide (0 < (without m.g (if s then x.receivers else x.senders)).length)) = true
  · rw [if_pos hc, if_pos hc]
  · rw [if_neg hc, if_neg hc]
    unfold addF
    have l1 := h.snd.1
    have l2 := h.rcv.1
    by_cases h1 : m.g < 0 ∨ m.case_ < -1
    · cases s <;> simp [h1]
    · cases s
      · simp only [Bool.false_eq_true, if_false, if_neg h1]
        by_cases h2 : x.receivers.length = 1024
        · rw [if_pos h2, if_pos (by omega)]
        · rw [if_neg h2, if_neg (by omega)]
      · simp only [if_true, if_neg h1]
        by_cases h2 : x.senders.length = 1024
        · rw [if_pos h2, if_pos (by omega)]
        · rw [if_neg h2, if_neg (by omega)]

theorem Inv9.wait {n : Nat} {x : PipeM} (h : Inv9 n x) (s : Bool) (m : Wtr) : Inv9 n (waitF x s m).2 := by
  rw [wait_eq h]
  unfold rwaitF
  have hb := h.buf
  by_cases hc : (x.closed || (if s then decide (x.buf.length < x.size) else decide (0 < x.buf.length)) || decide (0 < (without m.g (if s then x.receivers else x.senders)).length)) = true
  · rw [if_pos hc]
    exact h
  · rw [if_neg hc]
    by_cases h1 : m.g < 0 ∨ m.case_ < -1
    · rw [if_pos h1]
      exact h
    · rw [if_neg h1]
      cases s
      · simp only [Bool.false_eq_true, if_false] at hc ⊢
        simp only [Bool.or_eq_true, decide_eq_true_iff, not_or] at hc
        obtain ⟨⟨c1, c2⟩, c3⟩ := hc
        by_cases h2 : 1024 ≤ x.receivers.length
        · rw [if_pos h2]
          exact h
        · rw [if_neg h2]
          exact { h with rcv := ⟨by simp; omega, fun y hy => (List.mem_append.1 hy).elim (fun hy => h.rcv.2 y hy) (fun hy => by simp at hy; subst hy; omega)⟩, cl := fun hh => absurd hh c1, re := fun _ => List.eq_nil_of_length_eq_zero (by dsimp only; omega), own := fun a ha b hb' => (List.mem_append.1 hb').elim (fun hb' => h.own a ha b hb') (fun hb' => by simp at hb'; subst hb'; exact without_nil.1 c3 a ha) }
      · simp only [if_true] at hc ⊢
        simp only [Bool.or_eq_true, decide_eq_true_iff, not_or] at hc
        obtain ⟨⟨c1, c2⟩, c3⟩ := hc
        by_cases h2 : 1024 ≤ x.senders.length
        · rw [if_pos h2]
          exact h
        · rw [if_neg h2]
          exact { h with snd := ⟨by simp; omega, fun y hy => (List.mem_append.1 hy).elim (fun hy => h.snd.2 y hy) (fun hy => by simp at hy; subst hy; omega)⟩, cl := fun hh => absurd hh c1, se := fun _ => by dsimp only; omega, own := fun a ha b hb' => (List.mem_append.1 ha).elim (fun ha => h.own a ha b hb') (fun ha => by simp at ha; subst ha; exact (without_nil.1 c3 b hb').symm) }

theorem Inv9.close {n : Nat} {x : PipeM} (h : Inv9 n x) : Inv9 n (closeF x).2 := by
  unfold closeF
  by_cases hc : x.closed = true
  · rw [if_pos hc]
    exact h
  · rw [if_neg hc]
    exact { h with snd := Fine.nil, rcv := Fine.nil, cl := fun _ => ⟨rfl, rfl⟩, re := fun hh => absurd rfl hh, se := fun hh => absurd rfl hh, own := fun a ha => by cases ha }

theorem Inv9.drop {n : Nat} {x : PipeM} (h : Inv9 n x) (g : Int) : Inv9 n (dropM x g) := by
  have sub : ∀ {L : List Wtr} {a : Wtr}, a ∈ without g L → a ∈ L := fun ha => (List.mem_filter.1 ha).1
  have ne : ∀ {L : List Wtr}, without g L ≠ [] → L ≠ [] := fun hh e => hh (by rw [e]; rfl)
  exact { h with snd := h.snd.without g, rcv := h.rcv.without g, cl := fun hh => by obtain ⟨a, b⟩ := h.cl hh; exact ⟨by unfold dropM; dsimp only; rw [a]; rfl, by unfold dropM; dsimp only; rw [b]; rfl⟩, re := fun hh => h.re (ne hh), se := fun hh => h.se (ne hh), own := fun a ha b hb => h.own a (sub ha) b (sub hb) }

structure Step9 where
  what : Int
  w : Wtr

def Step9.cells (s : Step9) : List Value := [.int .i64 s.what, .int .i64 s.w.g, .int .i64 s.w.case_, .int .i64 s.w.value]
def Step9.agg (s : Step9) : Value := .agg #[.int .i64 s.what, .int .i64 s.w.g, .int .i64 s.w.case_, .int .i64 s.w.value]

def stepF (x : PipeM) (s : Step9) : PipeM :=
  if s.what = 0 ∨ s.what = 1 then (sendF x s.w.value).2
  else if s.what = 2 ∨ s.what = 3 then (recvF x).2
  else if s.what = 4 ∨ s.what = 5 then (waitF x (s.what == 4) s.w).2
  else if s.what = 6 then (closeF x).2
  else if s.what = 7 then dropM x s.w.g
  else x

theorem Inv9.step {n : Nat} {x : PipeM} (h : Inv9 n x) (s : Step9) : Inv9 (n + 1) (stepF x s) := by
  unfold stepF
  split
  · exact h.send _
  split
  · exact h.recv
  split
  · exact (h.wait _ _).more (by omega)
  split
  · exact h.close.more (by omega)
  split
  · exact (h.drop _).more (by omega)
  · exact h.more (by omega)

theorem Inv9.cnt {n : Nat} {x : PipeM} (h : Inv9 n x) (hn : n ≤ 1000000000) : Cnt x := ⟨h.s0, by have := h.s1; omega, h.r0, by have := h.r1; omega⟩

end Go.Proofs.Ytlccpbdpfamekaa
