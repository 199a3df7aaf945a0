/- Layer 9, pipe: one channel, and the methods that look. -/
import Derived.Test.YtlccpbdpfamekaaRing
import Derived.Test.YtlccpbdpfamekaaPewC
namespace Go.Proofs.Ytlccpbdpfamekaa
set_option linter.unusedVariables false
set_option linter.unusedSimpArgs false
open Go.RowKit

structure PipeM where
  size : Nat
  buf : List Int
  senders : List Wtr
  receivers : List Wtr
  closed : Bool
  sent : Int
  received : Int

/-- Block g is a pipe x: its ring's blocks are of R, those of its pews of P and Q. -/
structure PipeOf (w : World) (S : Nat → Prop) (g : Nat) (x : PipeM) (rb sp rp : Nat) (R P Q : Nat → Prop) : Prop where
  row : w.heap[g]? = some (.cells #[.pointer (some ⟨rb, 0, none⟩), .pointer (some ⟨sp, 0, none⟩), .pointer (some ⟨rp, 0, none⟩), .bool x.closed, .int .i64 x.sent, .int .i64 x.received] 90 (0, 0))
  own : S g
  ring : RingAt w R rb x.size x.buf
  snd : PewAt w P sp x.senders
  rcv : PewAt w Q rp x.receivers
  subR : ∀ k, R k → S k ∧ k ≠ g
  subP : ∀ k, P k → S k ∧ k ≠ g
  subQ : ∀ k, Q k → S k ∧ k ≠ g
  rp_ : ∀ k, R k → ¬ P k
  rq_ : ∀ k, R k → ¬ Q k
  pq_ : ∀ k, P k → ¬ Q k

def PipeAt (w : World) (S : Nat → Prop) (g : Nat) (x : PipeM) : Prop := ∃ rb sp rp R P Q, PipeOf w S g x rb sp rp R P Q

theorem PipeOf.move {w w' : World} {S : Nat → Prop} {g : Nat} {x : PipeM} {rb sp rp : Nat} {R P Q : Nat → Prop} (h : PipeOf w S g x rb sp rp R P Q) (hm : ∀ k, S k → w'.heap[k]? = w.heap[k]?) : PipeOf w' S g x rb sp rp R P Q :=
  ⟨(hm g h.own).trans h.row, h.own, h.ring.move (fun k hk => hm k (h.subR k hk).1), h.snd.move (fun k hk => hm k (h.subP k hk).1), h.rcv.move (fun k hk => hm k (h.subQ k hk).1), h.subR, h.subP, h.subQ, h.rp_, h.rq_, h.pq_⟩

theorem PipeAt.move {w w' : World} {S : Nat → Prop} {g : Nat} {x : PipeM} (h : PipeAt w S g x) (hm : ∀ k, S k → w'.heap[k]? = w.heap[k]?) : PipeAt w' S g x := by
  obtain ⟨rb, sp, rp, R, P, Q, h⟩ := h
  exact ⟨rb, sp, rp, R, P, Q, h.move hm⟩

theorem PipeAt.mono {w : World} {S T : Nat → Prop} {g : Nat} {x : PipeM} (h : PipeAt w S g x) (hm : ∀ k, S k → T k) : PipeAt w T g x := by
  obtain ⟨rb, sp, rp, R, P, Q, h⟩ := h
  exact ⟨rb, sp, rp, R, P, Q, h.row, hm g h.own, h.ring, h.snd, h.rcv, fun k hk => ⟨hm k (h.subR k hk).1, (h.subR k hk).2⟩, fun k hk => ⟨hm k (h.subP k hk).1, (h.subP k hk).2⟩, fun k hk => ⟨hm k (h.subQ k hk).1, (h.subQ k hk).2⟩, h.rp_, h.rq_, h.pq_⟩

theorem PipeOf.bound {w : World} {S : Nat → Prop} {g : Nat} {x : PipeM} {rb sp rp : Nat} {R P Q : Nat → Prop} (h : PipeOf w S g x rb sp rp R P Q) :
    PipeOf w (fun k => S k ∧ k < w.heap.size) g x rb sp rp (fun k => R k ∧ k < w.heap.size) (fun k => P k ∧ k < w.heap.size) (fun k => Q k ∧ k < w.heap.size) :=
  ⟨h.row, ⟨h.own, lt_of_block h.row⟩, h.ring.bound, h.snd.bound, h.rcv.bound, fun k hk => ⟨⟨(h.subR k hk.1).1, hk.2⟩, (h.subR k hk.1).2⟩, fun k hk => ⟨⟨(h.subP k hk.1).1, hk.2⟩, (h.subP k hk.1).2⟩, fun k hk => ⟨⟨(h.subQ k hk.1).1, hk.2⟩, (h.subQ k hk.1).2⟩,
    fun k hk hp => h.rp_ k hk.1 hp.1, fun k hk hp => h.rq_ k hk.1 hp.1, fun k hk hp => h.pq_ k hk.1 hp.1⟩

theorem PipeAt.bound {w : World} {S : Nat → Prop} {g : Nat} {x : PipeM} (h : PipeAt w S g x) : PipeAt w (fun k => S k ∧ k < w.heap.size) g x := by
  obtain ⟨rb, sp, rp, R, P, Q, h⟩ := h
  exact ⟨rb, sp, rp, _, _, _, h.bound⟩

theorem PipeAt.move' {w w' : World} {S : Nat → Prop} {g : Nat} {x : PipeM} (h : PipeAt w S g x) (hf : Frm Nil w w') : PipeAt w' S g x :=
  (h.bound.move (fun k hk => hf.block k hk.2 id)).mono (fun _ hk => hk.1)

section
variable {w : World} {S : Nat → Prop} {g : Nat} {x : PipeM}

theorem pipe_cells {a b c d e f : Value} {t : Nat} (h : w.heap[g]? = some (.cells #[a, b, c, d, e, f] t (0, 0))) :
    w.cell? ⟨g, 0, none⟩ = some a ∧ w.cell? ⟨g, 1, none⟩ = some b ∧ w.cell? ⟨g, 2, none⟩ = some c ∧ w.cell? ⟨g, 3, none⟩ = some d ∧ w.cell? ⟨g, 4, none⟩ = some e ∧ w.cell? ⟨g, 5, none⟩ = some f ∧ (∀ i, w.frozen? ⟨g, i, none⟩ = false) :=
  ⟨row_cell h 0 rfl, row_cell h 1 rfl, row_cell h 2 rfl, row_cell h 3 rfl, row_cell h 4 rfl, row_cell h 5 rfl, row_free h⟩

def emptyM (n : Nat) : PipeM := ⟨n, [], [], [], false, 0, 0⟩

set_option maxHeartbeats 400000 in
theorem pipe_new_bad (n : Int) (hn : n < 0 ∨ 4 < n) (w : World) : Calls Try.prog 11 #[.int .i64 n] w fun e w' => e = .returned (.tuple #[.pointer none, .int .i64 1]) ∧ w = w' := by
  go_enter Try.func11, Try.ntmps11
  go_wp2_with fail
  refine (ring_new_bad n hn w).mono ?_
  rintro e w1 ⟨rfl, rfl⟩
  go_wp2_with fail
  go_ret2
  exact ⟨rfl, rfl⟩

set_option maxHeartbeats 400000 in
theorem pipe_new_ok (n : Nat) (hn : n ≤ 4) (w : World) : Calls Try.prog 11 #[.int .i64 n] w fun e w' => ∃ g, e = .returned (.tuple #[.pointer (some ⟨g, 0, none⟩), .int .i64 0]) ∧ PipeAt w' (New Nil w w') g (emptyM n) ∧ Frm Nil w w' := by
  go_enter Try.func11, Try.ntmps11
  go_wp2_with fail
  refine (ring_new_ok n hn w).mono ?_
  rintro e w1 ⟨rb, rfl, h1, f1⟩
  go_wp2_with fail
  refine (pew_new w1).mono ?_
  rintro e w2 ⟨sp, rfl, h2, f2⟩
  go_wp2_with fail
  refine (pew_new w2).mono ?_
  rintro e w3 ⟨rp, rfl, h3, f3⟩
  go_wp2_with fail
  go_ret2
  have z1 := Zone.first f1
  have z2 := Zone.first f2
  have z3 := Zone.first f3
  have f4 : Frm Nil w3 (w3.alloc (.cells #[.pointer (some ⟨rb, 0, none⟩), .pointer (some ⟨sp, 0, none⟩), .pointer (some ⟨rp, 0, none⟩), .bool false, .int .i64 0, .int .i64 0] 90)) := (Frm.refl _ _).alloc _
  have s1 := f1.size
  have s2 := f2.size
  have s3 := f3.size
  have h1' := (h1.bound.move (fun k hk => (f2.then f3).block k hk.2 id)).bound.move (fun k hk => f4.block k hk.2 id)
  have h2' := (h2.bound.move (fun k hk => f3.block k hk.2 id)).bound.move (fun k hk => f4.block k hk.2 id)
  have h3' := h3.bound.move (fun k hk => f4.block k hk.2 id)
  refine ⟨w3.heap.size, rfl, ⟨rb, sp, rp, _, _, _, heap_alloc_new w3 _, .inr ⟨by omega, by simp⟩, h1', h2', h3', fun k hk => ?_, fun k hk => ?_, fun k hk => ?_, fun k hk hp => ?_, fun k hk hp => ?_, fun k hk hp => ?_⟩, ((f1.then f2).then f3).then f4⟩
  · have := z1.lo k hk.1.1
    have := hk.2
    exact ⟨.inr ⟨by omega, by simp; omega⟩, by omega⟩
  · have := z2.lo k hk.1.1
    have := hk.2
    exact ⟨.inr ⟨by omega, by simp; omega⟩, by omega⟩
  · have := z3.lo k hk.1
    have := hk.2
    exact ⟨.inr ⟨by omega, by simp; omega⟩, by omega⟩
  · have := hk.1.2
    have := z2.lo k hp.1.1
    omega
  · have := hk.1.2
    have := z3.lo k hp.1
    omega
  · have := hk.1.2
    have := z3.lo k hp.1
    omega

/-! ## the methods that look -/
set_option maxHeartbeats 400000 in
theorem pipe_pew {rb sp rp : Nat} {R P Q : Nat → Prop} (h : PipeOf w S g x rb sp rp R P Q) (s : Bool) : Calls Try.prog 49 #[.pointer (some ⟨g, 0, none⟩), .bool s] w fun e w' => e = .returned (.pointer (some ⟨if s then sp else rp, 0, none⟩)) ∧ w = w' := by
  obtain ⟨c0, c1, c2, c3, c4, c5, cf⟩ := pipe_cells h.row
  cases s
  all_goals
    go_enter Try.func49, Try.ntmps49
    go_wp2
    go_ret
    exact ⟨rfl, rfl⟩

set_option maxHeartbeats 400000 in
theorem pipe_pew_nil (s : Bool) (w : World) : Calls Try.prog 49 #[.pointer none, .bool s] w fun e w' => e = .returned (.pointer none) ∧ w = w' := by
  go_enter Try.func49, Try.ntmps49
  go_wp2
  go_ret
  exact ⟨rfl, rfl⟩

set_option maxHeartbeats 400000 in
theorem pipe_closed (h : PipeAt w S g x) : Calls Try.prog 18 #[.pointer (some ⟨g, 0, none⟩)] w fun e w' => e = .returned (.bool x.closed) ∧ Frm Nil w w' := by
  obtain ⟨rb, sp, rp, R, P, Q, h⟩ := h
  obtain ⟨c0, c1, c2, c3, c4, c5, cf⟩ := pipe_cells h.row
  go_enter Try.func18, Try.ntmps18
  go_wp2
  go_ret
  exact ⟨rfl, (by repeat (first | exact Frm.refl _ _ | apply Frm.drewN | apply Frm.drew | apply Frm.alloc | (refine Frm.then ?_ (by assumption))))⟩

set_option maxHeartbeats 400000 in
theorem pipe_closed_nil (w : World) : Calls Try.prog 18 #[.pointer none] w fun e w' => e = .returned (.bool false) ∧ Frm Nil w w' := by
  go_enter Try.func18, Try.ntmps18
  go_wp2
  go_ret
  exact ⟨rfl, (by repeat (first | exact Frm.refl _ _ | apply Frm.drewN | apply Frm.drew | apply Frm.alloc | (refine Frm.then ?_ (by assumption))))⟩

set_option maxHeartbeats 400000 in
theorem pipe_len (h : PipeAt w S g x) : Calls Try.prog 16 #[.pointer (some ⟨g, 0, none⟩)] w fun e w' => e = .returned (.int .i64 x.buf.length) ∧ w = w' := by
  obtain ⟨rb, sp, rp, R, P, Q, h⟩ := h
  obtain ⟨c0, c1, c2, c3, c4, c5, cf⟩ := pipe_cells h.row
  go_enter Try.func16, Try.ntmps16
  go_wp2_with fail
  refine (ring_len h.ring).mono ?_
  rintro e w' ⟨rfl, rfl⟩
  go_wp2_with fail
  go_ret
  exact ⟨rfl, rfl⟩

set_option maxHeartbeats 400000 in
theorem pipe_len_nil (w : World) : Calls Try.prog 16 #[.pointer none] w fun e w' => e = .returned (.int .i64 0) ∧ w = w' := by
  go_enter Try.func16, Try.ntmps16
  go_wp2
  go_ret
  exact ⟨rfl, rfl⟩

set_option maxHeartbeats 400000 in
theorem pipe_cap (h : PipeAt w S g x) : Calls Try.prog 17 #[.pointer (some ⟨g, 0, none⟩)] w fun e w' => e = .returned (.int .i64 x.size) ∧ w = w' := by
  obtain ⟨rb, sp, rp, R, P, Q, h⟩ := h
  obtain ⟨c0, c1, c2, c3, c4, c5, cf⟩ := pipe_cells h.row
  go_enter Try.func17, Try.ntmps17
  go_wp2_with fail
  refine (ring_cap h.ring).mono ?_
  rintro e w' ⟨rfl, rfl⟩
  go_wp2_with fail
  go_ret
  exact ⟨rfl, rfl⟩

set_option maxHeartbeats 400000 in
theorem pipe_cap_nil (w : World) : Calls Try.prog 17 #[.pointer none] w fun e w' => e = .returned (.int .i64 0) ∧ w = w' := by
  go_enter Try.func17, Try.ntmps17
  go_wp2
  go_ret
  exact ⟨rfl, rfl⟩

set_option maxHeartbeats 400000 in
theorem pipe_counts (h : PipeAt w S g x) : Calls Try.prog 19 #[.pointer (some ⟨g, 0, none⟩)] w fun e w' => e = .returned (.tuple #[.int .i64 x.sent, .int .i64 x.received]) ∧ Frm Nil w w' := by
  obtain ⟨rb, sp, rp, R, P, Q, h⟩ := h
  obtain ⟨c0, c1, c2, c3, c4, c5, cf⟩ := pipe_cells h.row
  go_enter Try.func19, Try.ntmps19
  go_wp2_with fail
  try go_quiet (fail)
  go_wp2_with fail
  go_ret2
  exact ⟨rfl, (by repeat (first | exact Frm.refl _ _ | apply Frm.drewN | apply Frm.drew | apply Frm.alloc | (refine Frm.then ?_ (by assumption))))⟩

set_option maxHeartbeats 400000 in
theorem pipe_counts_nil (w : World) : Calls Try.prog 19 #[.pointer none] w fun e w' => e = .returned (.tuple #[.int .i64 0, .int .i64 0]) ∧ w = w' := by
  go_enter Try.func19, Try.ntmps19
  go_wp2
  go_ret2
  exact ⟨rfl, rfl⟩

set_option maxHeartbeats 400000 in
theorem pipe_waiting (h : PipeAt w S g x) (s : Bool) (hs : x.senders.length ≤ 100000) (hr : x.receivers.length ≤ 100000) : Calls Try.prog 15 #[.pointer (some ⟨g, 0, none⟩), .bool s] w (Wtrs w (if s then x.senders else x.receivers)) := by
  obtain ⟨rb, sp, rp, R, P, Q, h⟩ := h
  cases s
  · simp only [Bool.false_eq_true, if_false]
    go_enter Try.func15, Try.ntmps15
    go_wp2_with fail
    refine (pipe_pew h false).mono ?_
    rintro e w' ⟨rfl, rfl⟩
    simp only [Bool.false_eq_true, if_false]
    go_wp2_with fail
    refine (pew_list h.rcv hr).mono ?_
    rintro e w' ⟨a, cap, rfl, h1, h2, h3⟩
    go_wp2_with fail
    go_ret
    exact ⟨a, cap, rfl, h1, h2, h3⟩
  · simp only [if_true]
    go_enter Try.func15, Try.ntmps15
    go_wp2_with fail
    refine (pipe_pew h true).mono ?_
    rintro e w' ⟨rfl, rfl⟩
    simp only [if_true]
    go_wp2_with fail
    refine (pew_list h.snd hs).mono ?_
    rintro e w' ⟨a, cap, rfl, h1, h2, h3⟩
    go_wp2_with fail
    go_ret
    exact ⟨a, cap, rfl, h1, h2, h3⟩

set_option maxHeartbeats 400000 in
theorem pipe_waiting_nil (s : Bool) (w : World) : Calls Try.prog 15 #[.pointer none, .bool s] w fun e w' => e = .returned (.slice none 0 0) ∧ w = w' := by
  go_enter Try.func15, Try.ntmps15
  go_wp2_with fail
  refine (pipe_pew_nil s w).mono ?_
  rintro e w' ⟨rfl, rfl⟩
  go_wp2_with fail
  refine (pew_list_nil w).mono ?_
  rintro e w' ⟨rfl, rfl⟩
  go_wp2_with fail
  go_ret
  exact ⟨rfl, rfl⟩

def readyF (x : PipeM) (s : Bool) : Bool := if s then x.closed || decide (0 < x.receivers.length) || decide (x.buf.length < x.size) else x.closed || decide (0 < x.senders.length) || decide (0 < x.buf.length)

set_option maxHeartbeats 400000 in
theorem pipe_ready_false (h : PipeAt w S g x) : Calls Try.prog 20 #[.pointer (some ⟨g, 0, none⟩), .bool false] w fun e w' => e = .returned (.bool (readyF x false)) ∧ Frm Nil w w' := by
  have k1 := fun (w' : World) (f : Frm Nil w w') => pipe_len (h.move' f)
  have k2 := fun (w' : World) (f : Frm Nil w w') => pipe_cap (h.move' f)
  obtain ⟨rb, sp, rp, R, P, Q, h⟩ := h
  obtain ⟨c0, c1, c2, c3, c4, c5, cf⟩ := pipe_cells h.row
  have k3 := pipe_pew h true
  simp only [if_true] at k3
  have k4 := pew_len h.snd
  have hR : readyF x false = (x.closed || decide (0 < (x.senders.length : Int)) || decide (0 < (x.buf.length : Int))) := by
    unfold readyF
    simp
  obtain ⟨n, hn⟩ : ∃ n, x.senders.length = n := ⟨_, rfl⟩
  obtain ⟨m, hm⟩ : ∃ m, x.buf.length = m := ⟨_, rfl⟩
  obtain ⟨z, hz⟩ : ∃ z, x.size = z := ⟨_, rfl⟩
  obtain ⟨cl, hcl⟩ : ∃ cl, x.closed = cl := ⟨_, rfl⟩
  rw [hn] at k4
  rw [hm] at k1
  rw [hz] at k2
  rw [hcl] at c3
  rw [hR, hn, hm, hcl]
  have K1 := Lib.hid k1
  have K2 := Lib.hid k2
  have K3 := Lib.hid k3
  have K4 := Lib.hid k4
  clear k1 k2 k3 k4 hR hn hm hz hcl
  cases cl with
  | true =>
    go_enter Try.func20, Try.ntmps20
    go_wp2_with fail
    refine K3.out.mono ?_
    rintro e w' ⟨rfl, rfl⟩
    go_wp2_with fail
    refine K4.out.mono ?_
    rintro e w' ⟨rfl, rfl⟩
    go_wp2_with fail
    go_ret
    exact ⟨rfl, (by repeat (first | exact Frm.refl _ _ | apply Frm.drewN | apply Frm.drew | apply Frm.alloc | (refine Frm.then ?_ (by assumption))))⟩
  | false =>
    by_cases h0 : 0 < (n : Int)
    · have hb0 : decide (0 < (n : Int)) = true := by simpa using h0
      go_enter Try.func20, Try.ntmps20
      go_wp2_with fail
      refine K3.out.mono ?_
      rintro e w' ⟨rfl, rfl⟩
      go_wp2_with fail
      refine K4.out.mono ?_
      rintro e w' ⟨rfl, rfl⟩
      go_wp2_with fail
      go_ret
      exact ⟨ret_bool (by rw [Bool.eq_iff_iff]; simp; try omega), (by repeat (first | exact Frm.refl _ _ | apply Frm.drewN | apply Frm.drew | apply Frm.alloc | (refine Frm.then ?_ (by assumption))))⟩
    · have hb0 : decide (0 < (n : Int)) = false := by simpa using h0
      go_enter Try.func20, Try.ntmps20
      go_wp2_with fail
      refine K3.out.mono ?_
      rintro e w' ⟨rfl, rfl⟩
      go_wp2_with fail
      refine K4.out.mono ?_
      rintro e w' ⟨rfl, rfl⟩
      go_wp2_with fail
      refine (K1.out _ (by repeat (first | exact Frm.refl _ _ | apply Frm.drewN | apply Frm.drew | apply Frm.alloc | (refine Frm.then ?_ (by assumption))))).mono ?_
      rintro e w' ⟨rfl, rfl⟩
      go_wp2_with fail
      go_ret
      exact ⟨ret_bool (by rw [Bool.eq_iff_iff]; simp; try omega), (by repeat (first | exact Frm.refl _ _ | apply Frm.drewN | apply Frm.drew | apply Frm.alloc | (refine Frm.then ?_ (by assumption))))⟩

set_option maxHeartbeats 400000 in
theorem pipe_ready_true (h : PipeAt w S g x) : Calls Try.prog 20 #[.pointer (some ⟨g, 0, none⟩), .bool true] w fun e w' => e = .returned (.bool (readyF x true)) ∧ Frm Nil w w' := by
  have k1 := fun (w' : World) (f : Frm Nil w w') => pipe_len (h.move' f)
  have k2 := fun (w' : World) (f : Frm Nil w w') => pipe_cap (h.move' f)
  obtain ⟨rb, sp, rp, R, P, Q, h⟩ := h
  obtain ⟨c0, c1, c2, c3, c4, c5, cf⟩ := pipe_cells h.row
  have k3 := pipe_pew h false
  simp only [Bool.false_eq_true, if_false] at k3
  have k4 := pew_len h.rcv
  have hR : readyF x true = (x.closed || decide (0 < (x.receivers.length : Int)) || decide ((x.buf.length : Int) < (x.size : Int))) := by
    unfold readyF
    simp
  obtain ⟨n, hn⟩ : ∃ n, x.receivers.length = n := ⟨_, rfl⟩
  obtain ⟨m, hm⟩ : ∃ m, x.buf.length = m := ⟨_, rfl⟩
  obtain ⟨z, hz⟩ : ∃ z, x.size = z := ⟨_, rfl⟩
  obtain ⟨cl, hcl⟩ : ∃ cl, x.closed = cl := ⟨_, rfl⟩
  rw [hn] at k4
  rw [hm] at k1
  rw [hz] at k2
  rw [hcl] at c3
  rw [hR, hn, hm, hz, hcl]
  have K1 := Lib.hid k1
  have K2 := Lib.hid k2
  have K3 := Lib.hid k3
  have K4 := Lib.hid k4
  clear k1 k2 k3 k4 hR hn hm hz hcl
  cases cl with
  | true =>
    go_enter Try.func20, Try.ntmps20
    go_wp2_with fail
    refine K3.out.mono ?_
    rintro e w' ⟨rfl, rfl⟩
    go_wp2_with fail
    refine K4.out.mono ?_
    rintro e w' ⟨rfl, rfl⟩
    go_wp2_with fail
    go_ret
    exact ⟨rfl, (by repeat (first | exact Frm.refl _ _ | apply Frm.drewN | apply Frm.drew | apply Frm.alloc | (refine Frm.then ?_ (by assumption))))⟩
  | false =>
    by_cases h0 : 0 < (n : Int)
    · have hb0 : decide (0 < (n : Int)) = true := by simpa using h0
      go_enter Try.func20, Try.ntmps20
      go_wp2_with fail
      refine K3.out.mono ?_
      rintro e w' ⟨rfl, rfl⟩
      go_wp2_with fail
      refine K4.out.mono ?_
      rintro e w' ⟨rfl, rfl⟩
      go_wp2_with fail
      go_ret
      exact ⟨ret_bool (by rw [Bool.eq_iff_iff]; simp; try omega), (by repeat (first | exact Frm.refl _ _ | apply Frm.drewN | apply Frm.drew | apply Frm.alloc | (refine Frm.then ?_ (by assumption))))⟩
    · have hb0 : decide (0 < (n : Int)) = false := by simpa using h0
      go_enter Try.func20, Try.ntmps20
      go_wp2_with fail
      refine K3.out.mono ?_
      rintro e w' ⟨rfl, rfl⟩
      go_wp2_with fail
      refine K4.out.mono ?_
      rintro e w' ⟨rfl, rfl⟩
      go_wp2_with fail
      refine (K1.out _ (by repeat (first | exact Frm.refl _ _ | apply Frm.drewN | apply Frm.drew | apply Frm.alloc | (refine Frm.then ?_ (by assumption))))).mono ?_
      rintro e w' ⟨rfl, rfl⟩
      go_wp2_with fail
      refine (K2.out _ (by repeat (first | exact Frm.refl _ _ | apply Frm.drewN | apply Frm.drew | apply Frm.alloc | (refine Frm.then ?_ (by assumption))))).mono ?_
      rintro e w' ⟨rfl, rfl⟩
      go_wp2_with fail
      go_ret
      exact ⟨ret_bool (by rw [Bool.eq_iff_iff]; simp; try omega), (by repeat (first | exact Frm.refl _ _ | apply Frm.drewN | apply Frm.drew | apply Frm.alloc | (refine Frm.then ?_ (by assumption))))⟩

theorem pipe_ready (h : PipeAt w S g x) (s : Bool) : Calls Try.prog 20 #[.pointer (some ⟨g, 0, none⟩), .bool s] w fun e w' => e = .returned (.bool (readyF x s)) ∧ Frm Nil w w' := by
  cases s
  · exact pipe_ready_false h
  · exact pipe_ready_true h

set_option maxHeartbeats 400000 in
theorem pipe_ready_nil (s : Bool) (w : World) : Calls Try.prog 20 #[.pointer none, .bool s] w fun e w' => e = .returned (.bool false) ∧ Frm Nil w w' := by
  go_enter Try.func20, Try.ntmps20
  go_wp2_with fail
  go_ret
  exact ⟨rfl, (by repeat (first | exact Frm.refl _ _ | apply Frm.drewN | apply Frm.drew | apply Frm.alloc | (refine Frm.then ?_ (by assumption))))⟩
end

end Go.Proofs.Ytlccpbdpfamekaa
