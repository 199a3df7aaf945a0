/- Texts of the proof, several in one file: Pipe, PipeB, PipeC, PipeD, PipeE. -/
import Derived.Test.YtchkaaeoffmjnaaGreatDoorG01
import Derived.Deep.RegionWith
namespace Go.Proofs.YtchkaaeoffmjnaaGreatDoor
set_option linter.unusedVariables false
set_option linter.unusedSimpArgs false
open Go.RowKit
structure PipeM where
 size : Nat
 buf : List Int
 senders : List Wtr
 receivers : List Wtr
 closed : Bool
 sent : Int
 received : Int
/-- Block g is a pipe x: its ring's blocks are of R, those of its pews of P and Q. -/
structure PipeOf (w : World) (S : Nat → Prop) (g : Nat) (x : PipeM) (rb sp rp : Nat) (R P Q : Nat → Prop) : Prop where
 row : w.heap[g]? = some (.cells #[.pointer (some ⟨rb, 0, none⟩), .pointer (some ⟨sp, 0, none⟩), .pointer (some ⟨rp, 0, none⟩), .bool x.closed, .int .i64 x.sent, .int .i64 x.received] 223 (0, 0))
 own : S g
 ring : RingAt w R rb x.size x.buf
 snd : PewAt w P sp x.senders
 rcv : PewAt w Q rp x.receivers
 subR : ∀ k, R k → S k ∧ k ≠ g
 subP : ∀ k, P k → S k ∧ k ≠ g
 subQ : ∀ k, Q k → S k ∧ k ≠ g
 rp_ : ∀ k, R k → ¬ P k
 rq_ : ∀ k, R k → ¬ Q k
 pq_ : ∀ k, P k → ¬ Q k
def PipeAt (w : World) (S : Nat → Prop) (g : Nat) (x : PipeM) : Prop := ∃ rb sp rp R P Q, PipeOf w S g x rb sp rp R P Q
theorem PipeOf.move {w w' : World} {S : Nat → Prop} {g : Nat} {x : PipeM} {rb sp rp : Nat} {R P Q : Nat → Prop} (h : PipeOf w S g x rb sp rp R P Q) (hm : ∀ k, S k → w'.heap[k]? = w.heap[k]?) : PipeOf w' S g x rb sp rp R P Q :=
 ⟨(hm g h.own).trans h.row, h.own, h.ring.move (fun k hk => hm k (h.subR k hk).1), h.snd.move (fun k hk => hm k (h.subP k hk).1), h.rcv.move (fun k hk => hm k (h.subQ k hk).1), h.subR, h.subP, h.subQ, h.rp_, h.rq_, h.pq_⟩
theorem PipeAt.move {w w' : World} {S : Nat → Prop} {g : Nat} {x : PipeM} (h : PipeAt w S g x) (hm : ∀ k, S k → w'.heap[k]? = w.heap[k]?) : PipeAt w' S g x := by
 obtain ⟨rb, sp, rp, R, P, Q, h⟩ := h
 exact ⟨rb, sp, rp, R, P, Q, h.move hm⟩
theorem PipeAt.mono {w : World} {S T : Nat → Prop} {g : Nat} {x : PipeM} (h : PipeAt w S g x) (hm : ∀ k, S k → T k) : PipeAt w T g x := by
 obtain ⟨rb, sp, rp, R, P, Q, h⟩ := h
 exact ⟨rb, sp, rp, R, P, Q, h.row, hm g h.own, h.ring, h.snd, h.rcv, fun k hk => ⟨hm k (h.subR k hk).1, (h.subR k hk).2⟩, fun k hk => ⟨hm k (h.subP k hk).1, (h.subP k hk).2⟩, fun k hk => ⟨hm k (h.subQ k hk).1, (h.subQ k hk).2⟩, h.rp_, h.rq_, h.pq_⟩
theorem PipeOf.bound {w : World} {S : Nat → Prop} {g : Nat} {x : PipeM} {rb sp rp : Nat} {R P Q : Nat → Prop} (h : PipeOf w S g x rb sp rp R P Q) :
  PipeOf w (fun k => S k ∧ k < w.heap.size) g x rb sp rp (fun k => R k ∧ k < w.heap.size) (fun k => P k ∧ k < w.heap.size) (fun k => Q k ∧ k < w.heap.size) :=
 ⟨h.row, ⟨h.own, lt_of_block h.row⟩, h.ring.bound, h.snd.bound, h.rcv.bound, fun k hk => ⟨⟨(h.subR k hk.1).1, hk.2⟩, (h.subR k hk.1).2⟩, fun k hk => ⟨⟨(h.subP k hk.1).1, hk.2⟩, (h.subP k hk.1).2⟩, fun k hk => ⟨⟨(h.subQ k hk.1).1, hk.2⟩, (h.subQ k hk.1).2⟩,
  fun k hk hp => h.rp_ k hk.1 hp.1, fun k hk hp => h.rq_ k hk.1 hp.1, fun k hk hp => h.pq_ k hk.1 hp.1⟩
theorem PipeAt.bound {w : World} {S : Nat → Prop} {g : Nat} {x : PipeM} (h : PipeAt w S g x) : PipeAt w (fun k => S k ∧ k < w.heap.size) g x := by
 obtain ⟨rb, sp, rp, R, P, Q, h⟩ := h
 exact ⟨rb, sp, rp, _, _, _, h.bound⟩
theorem PipeAt.move' {w w' : World} {S : Nat → Prop} {g : Nat} {x : PipeM} (h : PipeAt w S g x) (hf : Frm Nil w w') : PipeAt w' S g x :=
 (h.bound.move (fun k hk => hf.block k hk.2 id)).mono (fun _ hk => hk.1)
section
variable {w : World} {S : Nat → Prop} {g : Nat} {x : PipeM}
theorem pipe_cells {a b c d e f : Value} {t : Nat} (h : w.heap[g]? = some (.cells #[a, b, c, d, e, f] t (0, 0))) :
  w.cell? ⟨g, 0, none⟩ = some a ∧ w.cell? ⟨g, 1, none⟩ = some b ∧ w.cell? ⟨g, 2, none⟩ = some c ∧ w.cell? ⟨g, 3, none⟩ = some d ∧ w.cell? ⟨g, 4, none⟩ = some e ∧ w.cell? ⟨g, 5, none⟩ = some f ∧ (∀ i, w.frozen? ⟨g, i, none⟩ = false) :=
 ⟨row_cell h 0 rfl, row_cell h 1 rfl, row_cell h 2 rfl, row_cell h 3 rfl, row_cell h 4 rfl, row_cell h 5 rfl, row_free h⟩
def emptyM (n : Nat) : PipeM := ⟨n, [], [], [], false, 0, 0⟩
set_option maxHeartbeats 400000 in
theorem pipe_new_ok (n : Nat) (hn : n ≤ 4) (w : World) : Calls Tryz.prog 112 #[.int .i64 n] w fun e w' => ∃ g, e = .returned (.tuple #[.pointer (some ⟨g, 0, none⟩), .int .i64 0]) ∧ PipeAt w' (New Nil w w') g (emptyM n) ∧ Frm Nil w w' := by
 go_enter Tryz.func112, Tryz.ntmps112
 go_wp2_with fail
 refine (ring_new_ok n hn w).mono ?_
 rintro e w1 ⟨rb, rfl, h1, f1⟩
 go_wp2_with fail
 refine (pew_new w1).mono ?_
 rintro e w2 ⟨sp, rfl, h2, f2⟩
 go_wp2_with fail
 refine (pew_new w2).mono ?_
 rintro e w3 ⟨rp, rfl, h3, f3⟩
 go_wp2_with fail
 go_ret2
 have z1 := Zone.first f1
 have z2 := Zone.first f2
 have z3 := Zone.first f3
 have f4 : Frm Nil w3 (w3.alloc (.cells #[.pointer (some ⟨rb, 0, none⟩), .pointer (some ⟨sp, 0, none⟩), .pointer (some ⟨rp, 0, none⟩), .bool false, .int .i64 0, .int .i64 0] 223)) := (Frm.refl _ _).alloc _
 have s1 := f1.size
 have s2 := f2.size
 have s3 := f3.size
 have h1' := (h1.bound.move (fun k hk => (f2.then f3).block k hk.2 id)).bound.move (fun k hk => f4.block k hk.2 id)
 have h2' := (h2.bound.move (fun k hk => f3.block k hk.2 id)).bound.move (fun k hk => f4.block k hk.2 id)
 have h3' := h3.bound.move (fun k hk => f4.block k hk.2 id)
 refine ⟨w3.heap.size, rfl, ⟨rb, sp, rp, _, _, _, heap_alloc_new w3 _, .inr ⟨by omega, by simp⟩, h1', h2', h3', fun k hk => ?_, fun k hk => ?_, fun k hk => ?_, fun k hk hp => ?_, fun k hk hp => ?_, fun k hk hp => ?_⟩, ((f1.then f2).then f3).then f4⟩
 ·have := z1.lo k hk.1.1
  have := hk.2
  exact ⟨.inr ⟨by omega, by simp; omega⟩, by omega⟩
 ·have := z2.lo k hk.1.1
  have := hk.2
  exact ⟨.inr ⟨by omega, by simp; omega⟩, by omega⟩
 ·have := z3.lo k hk.1
  have := hk.2
  exact ⟨.inr ⟨by omega, by simp; omega⟩, by omega⟩
 ·have := hk.1.2
  have := z2.lo k hp.1.1
  omega
 ·have := hk.1.2
  have := z3.lo k hp.1
  omega
 ·have := hk.1.2
  have := z3.lo k hp.1
  omega
set_option maxHeartbeats 400000 in
theorem pipe_pew {rb sp rp : Nat} {R P Q : Nat → Prop} (h : PipeOf w S g x rb sp rp R P Q) (s : Bool) : Calls Tryz.prog 154 #[.pointer (some ⟨g, 0, none⟩), .bool s] w fun e w' => e = .returned (.pointer (some ⟨if s then sp else rp, 0, none⟩)) ∧ w = w' := by
 obtain ⟨c0, c1, c2, c3, c4, c5, cf⟩ := pipe_cells h.row
 cases s
 all_goals
  go_enter Tryz.func154, Tryz.ntmps154
  go_wp2
  go_ret
  exact ⟨rfl, rfl⟩
set_option maxHeartbeats 400000 in
theorem pipe_pew_nil (s : Bool) (w : World) : Calls Tryz.prog 154 #[.pointer none, .bool s] w fun e w' => e = .returned (.pointer none) ∧ w = w' := by
 go_enter Tryz.func154, Tryz.ntmps154
 go_wp2
 go_ret
 exact ⟨rfl, rfl⟩
set_option maxHeartbeats 400000 in
theorem pipe_closed (h : PipeAt w S g x) : Calls Tryz.prog 209 #[.pointer (some ⟨g, 0, none⟩)] w fun e w' => e = .returned (.bool x.closed) ∧ Frm Nil w w' := by
 obtain ⟨rb, sp, rp, R, P, Q, h⟩ := h
 obtain ⟨c0, c1, c2, c3, c4, c5, cf⟩ := pipe_cells h.row
 go_enter Tryz.func209, Tryz.ntmps209
 go_wp2
 go_ret
 exact ⟨rfl, (by repeat (first | exact Frm.refl _ _ | apply Frm.drewN | apply Frm.drew | apply Frm.alloc | (refine Frm.then ?_ (by assumption))))⟩
set_option maxHeartbeats 400000 in
theorem pipe_closed_nil (w : World) : Calls Tryz.prog 209 #[.pointer none] w fun e w' => e = .returned (.bool false) ∧ Frm Nil w w' := by
 go_enter Tryz.func209, Tryz.ntmps209
 go_wp2
 go_ret
 exact ⟨rfl, (by repeat (first | exact Frm.refl _ _ | apply Frm.drewN | apply Frm.drew | apply Frm.alloc | (refine Frm.then ?_ (by assumption))))⟩
set_option maxHeartbeats 400000 in
theorem pipe_len (h : PipeAt w S g x) : Calls Tryz.prog 156 #[.pointer (some ⟨g, 0, none⟩)] w fun e w' => e = .returned (.int .i64 x.buf.length) ∧ w = w' := by
 obtain ⟨rb, sp, rp, R, P, Q, h⟩ := h
 obtain ⟨c0, c1, c2, c3, c4, c5, cf⟩ := pipe_cells h.row
 go_enter Tryz.func156, Tryz.ntmps156
 go_wp2_with fail
 refine (ring_len h.ring).mono ?_
 rintro e w' ⟨rfl, rfl⟩
 go_wp2_with fail
 go_ret
 exact ⟨rfl, rfl⟩
set_option maxHeartbeats 400000 in
theorem pipe_cap (h : PipeAt w S g x) : Calls Tryz.prog 157 #[.pointer (some ⟨g, 0, none⟩)] w fun e w' => e = .returned (.int .i64 x.size) ∧ w = w' := by
 obtain ⟨rb, sp, rp, R, P, Q, h⟩ := h
 obtain ⟨c0, c1, c2, c3, c4, c5, cf⟩ := pipe_cells h.row
 go_enter Tryz.func157, Tryz.ntmps157
 go_wp2_with fail
 refine (ring_cap h.ring).mono ?_
 rintro e w' ⟨rfl, rfl⟩
 go_wp2_with fail
 go_ret
 exact ⟨rfl, rfl⟩
set_option maxHeartbeats 400000 in
theorem pipe_waiting (h : PipeAt w S g x) (s : Bool) (hs : x.senders.length ≤ 100000) (hr : x.receivers.length ≤ 100000) : Calls Tryz.prog 201 #[.pointer (some ⟨g, 0, none⟩), .bool s] w (Wtrs w (if s then x.senders else x.receivers)) := by
 obtain ⟨rb, sp, rp, R, P, Q, h⟩ := h
 cases s
 ·simp only [Bool.false_eq_true, if_false]
  go_enter Tryz.func201, Tryz.ntmps201
  go_wp2_with fail
  refine (pipe_pew h false).mono ?_
  rintro e w' ⟨rfl, rfl⟩
  simp only [Bool.false_eq_true, if_false]
  go_wp2_with fail
  refine (pew_list h.rcv hr).mono ?_
  rintro e w' ⟨a, cap, rfl, h1, h2, h3⟩
  go_wp2_with fail
  go_ret
  exact ⟨a, cap, rfl, h1, h2, h3⟩
 ·simp only [if_true]
  go_enter Tryz.func201, Tryz.ntmps201
  go_wp2_with fail
  refine (pipe_pew h true).mono ?_
  rintro e w' ⟨rfl, rfl⟩
  simp only [if_true]
  go_wp2_with fail
  refine (pew_list h.snd hs).mono ?_
  rintro e w' ⟨a, cap, rfl, h1, h2, h3⟩
  go_wp2_with fail
  go_ret
  exact ⟨a, cap, rfl, h1, h2, h3⟩
def readyF (x : PipeM) (s : Bool) : Bool := if s then x.closed || decide (0 < x.receivers.length) || decide (x.buf.length < x.size) else x.closed || decide (0 < x.senders.length) || decide (0 < x.buf.length)
set_option maxHeartbeats 400000 in
theorem pipe_ready_false (h : PipeAt w S g x) : Calls Tryz.prog 107 #[.pointer (some ⟨g, 0, none⟩), .bool false] w fun e w' => e = .returned (.bool (readyF x false)) ∧ Frm Nil w w' := by
 have k1 := fun (w' : World) (f : Frm Nil w w') => pipe_len (h.move' f)
 have k2 := fun (w' : World) (f : Frm Nil w w') => pipe_cap (h.move' f)
 obtain ⟨rb, sp, rp, R, P, Q, h⟩ := h
 obtain ⟨c0, c1, c2, c3, c4, c5, cf⟩ := pipe_cells h.row
 have k3 := pipe_pew h true
 simp only [if_true] at k3
 have k4 := pew_len h.snd
 have hR : readyF x false = (x.closed || decide (0 < (x.senders.length : Int)) || decide (0 < (x.buf.length : Int))) := by
  unfold readyF
  simp
 obtain ⟨n, hn⟩ : ∃ n, x.senders.length = n := ⟨_, rfl⟩
 obtain ⟨m, hm⟩ : ∃ m, x.buf.length = m := ⟨_, rfl⟩
 obtain ⟨z, hz⟩ : ∃ z, x.size = z := ⟨_, rfl⟩
 obtain ⟨cl, hcl⟩ : ∃ cl, x.closed = cl := ⟨_, rfl⟩
 rw [hn] at k4
 rw [hm] at k1
 rw [hz] at k2
 rw [hcl] at c3
 rw [hR, hn, hm, hcl]
 have K1 := Lib.hid k1
 have K2 := Lib.hid k2
 have K3 := Lib.hid k3
 have K4 := Lib.hid k4
 clear k1 k2 k3 k4 hR hn hm hz hcl
 cases cl with
 | true =>
  go_enter Tryz.func107, Tryz.ntmps107
  go_wp2_with fail
  refine K3.out.mono ?_
  rintro e w' ⟨rfl, rfl⟩
  go_wp2_with fail
  refine K4.out.mono ?_
  rintro e w' ⟨rfl, rfl⟩
  go_wp2_with fail
  go_ret
  exact ⟨rfl, (by repeat (first | exact Frm.refl _ _ | apply Frm.drewN | apply Frm.drew | apply Frm.alloc | (refine Frm.then ?_ (by assumption))))⟩
 | false =>
  by_cases h0 : 0 < (n : Int)
  ·have hb0 : decide (0 < (n : Int)) = true := by simpa using h0
   go_enter Tryz.func107, Tryz.ntmps107
   go_wp2_with fail
   refine K3.out.mono ?_
   rintro e w' ⟨rfl, rfl⟩
   go_wp2_with fail
   refine K4.out.mono ?_
   rintro e w' ⟨rfl, rfl⟩
   go_wp2_with fail
   go_ret
   exact ⟨ret_bool (by rw [Bool.eq_iff_iff]; simp; try omega), (by repeat (first | exact Frm.refl _ _ | apply Frm.drewN | apply Frm.drew | apply Frm.alloc | (refine Frm.then ?_ (by assumption))))⟩
  ·have hb0 : decide (0 < (n : Int)) = false := by simpa using h0
   go_enter Tryz.func107, Tryz.ntmps107
   go_wp2_with fail
   refine K3.out.mono ?_
   rintro e w' ⟨rfl, rfl⟩
   go_wp2_with fail
   refine K4.out.mono ?_
   rintro e w' ⟨rfl, rfl⟩
   go_wp2_with fail
   refine (K1.out _ (by repeat (first | exact Frm.refl _ _ | apply Frm.drewN | apply Frm.drew | apply Frm.alloc | (refine Frm.then ?_ (by assumption))))).mono ?_
   rintro e w' ⟨rfl, rfl⟩
   go_wp2_with fail
   go_ret
   exact ⟨ret_bool (by rw [Bool.eq_iff_iff]; simp; try omega), (by repeat (first | exact Frm.refl _ _ | apply Frm.drewN | apply Frm.drew | apply Frm.alloc | (refine Frm.then ?_ (by assumption))))⟩
set_option maxHeartbeats 400000 in
theorem pipe_ready_true (h : PipeAt w S g x) : Calls Tryz.prog 107 #[.pointer (some ⟨g, 0, none⟩), .bool true] w fun e w' => e = .returned (.bool (readyF x true)) ∧ Frm Nil w w' := by
 have k1 := fun (w' : World) (f : Frm Nil w w') => pipe_len (h.move' f)
 have k2 := fun (w' : World) (f : Frm Nil w w') => pipe_cap (h.move' f)
 obtain ⟨rb, sp, rp, R, P, Q, h⟩ := h
 obtain ⟨c0, c1, c2, c3, c4, c5, cf⟩ := pipe_cells h.row
 have k3 := pipe_pew h false
 simp only [Bool.false_eq_true, if_false] at k3
 have k4 := pew_len h.rcv
 have hR : readyF x true = (x.closed || decide (0 < (x.receivers.length : Int)) || decide ((x.buf.length : Int) < (x.size : Int))) := by
  unfold readyF
  simp
 obtain ⟨n, hn⟩ : ∃ n, x.receivers.length = n := ⟨_, rfl⟩
 obtain ⟨m, hm⟩ : ∃ m, x.buf.length = m := ⟨_, rfl⟩
 obtain ⟨z, hz⟩ : ∃ z, x.size = z := ⟨_, rfl⟩
 obtain ⟨cl, hcl⟩ : ∃ cl, x.closed = cl := ⟨_, rfl⟩
 rw [hn] at k4
 rw [hm] at k1
 rw [hz] at k2
 rw [hcl] at c3
 rw [hR, hn, hm, hz, hcl]
 have K1 := Lib.hid k1
 have K2 := Lib.hid k2
 have K3 := Lib.hid k3
 have K4 := Lib.hid k4
 clear k1 k2 k3 k4 hR hn hm hz hcl
 cases cl with
 | true =>
  go_enter Tryz.func107, Tryz.ntmps107
  go_wp2_with fail
  refine K3.out.mono ?_
  rintro e w' ⟨rfl, rfl⟩
  go_wp2_with fail
  refine K4.out.mono ?_
  rintro e w' ⟨rfl, rfl⟩
  go_wp2_with fail
  go_ret
  exact ⟨rfl, (by repeat (first | exact Frm.refl _ _ | apply Frm.drewN | apply Frm.drew | apply Frm.alloc | (refine Frm.then ?_ (by assumption))))⟩
 | false =>
  by_cases h0 : 0 < (n : Int)
  ·have hb0 : decide (0 < (n : Int)) = true := by simpa using h0
   go_enter Tryz.func107, Tryz.ntmps107
   go_wp2_with fail
   refine K3.out.mono ?_
   rintro e w' ⟨rfl, rfl⟩
   go_wp2_with fail
   refine K4.out.mono ?_
   rintro e w' ⟨rfl, rfl⟩
   go_wp2_with fail
   go_ret
   exact ⟨ret_bool (by rw [Bool.eq_iff_iff]; simp; try omega), (by repeat (first | exact Frm.refl _ _ | apply Frm.drewN | apply Frm.drew | apply Frm.alloc | (refine Frm.then ?_ (by assumption))))⟩
  ·have hb0 : decide (0 < (n : Int)) = false := by simpa using h0
   go_enter Tryz.func107, Tryz.ntmps107
   go_wp2_with fail
   refine K3.out.mono ?_
   rintro e w' ⟨rfl, rfl⟩
   go_wp2_with fail
   refine K4.out.mono ?_
   rintro e w' ⟨rfl, rfl⟩
   go_wp2_with fail
   refine (K1.out _ (by repeat (first | exact Frm.refl _ _ | apply Frm.drewN | apply Frm.drew | apply Frm.alloc | (refine Frm.then ?_ (by assumption))))).mono ?_
   rintro e w' ⟨rfl, rfl⟩
   go_wp2_with fail
   refine (K2.out _ (by repeat (first | exact Frm.refl _ _ | apply Frm.drewN | apply Frm.drew | apply Frm.alloc | (refine Frm.then ?_ (by assumption))))).mono ?_
   rintro e w' ⟨rfl, rfl⟩
   go_wp2_with fail
   go_ret
   exact ⟨ret_bool (by rw [Bool.eq_iff_iff]; simp; try omega), (by repeat (first | exact Frm.refl _ _ | apply Frm.drewN | apply Frm.drew | apply Frm.alloc | (refine Frm.then ?_ (by assumption))))⟩
theorem pipe_ready (h : PipeAt w S g x) (s : Bool) : Calls Tryz.prog 107 #[.pointer (some ⟨g, 0, none⟩), .bool s] w fun e w' => e = .returned (.bool (readyF x s)) ∧ Frm Nil w w' := by
 cases s
 ·exact pipe_ready_false h
 ·exact pipe_ready_true h
set_option maxHeartbeats 400000 in
theorem pipe_ready_nil (s : Bool) (w : World) : Calls Tryz.prog 107 #[.pointer none, .bool s] w fun e w' => e = .returned (.bool false) ∧ Frm Nil w w' := by
 go_enter Tryz.func107, Tryz.ntmps107
 go_wp2_with fail
 go_ret
 exact ⟨rfl, (by repeat (first | exact Frm.refl _ _ | apply Frm.drewN | apply Frm.drew | apply Frm.alloc | (refine Frm.then ?_ (by assumption))))⟩
end
end Go.Proofs.YtchkaaeoffmjnaaGreatDoor
namespace Go.Proofs.YtchkaaeoffmjnaaGreatDoor
set_option linter.unusedVariables false
set_option linter.unusedSimpArgs false
open Go.RowKit
/-- A method that changes a pipe: it is y then. -/
def PipePost (S : Nat → Prop) (g : Nat) (w : World) (r : Value) (y : PipeM) : Ending → World → Prop :=
 fun e w' => e = .returned r ∧ PipeAt w' (New S w w') g y ∧ Frm S w w'
section
variable {w : World} {S : Nat → Prop} {g : Nat} {x : PipeM}
theorem PipeOf.sent_ {rb sp rp : Nat} {R P Q : Nat → Prop} (h : PipeOf w S g x rb sp rp R P Q) (v : Int) : PipeOf (w.setCell ⟨g, 4, none⟩ (.int .i64 v)) S g { x with sent := v } rb sp rp R P Q :=
 ⟨blk_set h.row 4 (.int .i64 v), h.own, h.ring.move (fun k hk => Below.heap_setCell _ _ _ _ (h.subR k hk).2), h.snd.move (fun k hk => Below.heap_setCell _ _ _ _ (h.subP k hk).2), h.rcv.move (fun k hk => Below.heap_setCell _ _ _ _ (h.subQ k hk).2), h.subR, h.subP, h.subQ, h.rp_, h.rq_, h.pq_⟩
theorem PipeOf.received_ {rb sp rp : Nat} {R P Q : Nat → Prop} (h : PipeOf w S g x rb sp rp R P Q) (v : Int) : PipeOf (w.setCell ⟨g, 5, none⟩ (.int .i64 v)) S g { x with received := v } rb sp rp R P Q :=
 ⟨blk_set h.row 5 (.int .i64 v), h.own, h.ring.move (fun k hk => Below.heap_setCell _ _ _ _ (h.subR k hk).2), h.snd.move (fun k hk => Below.heap_setCell _ _ _ _ (h.subP k hk).2), h.rcv.move (fun k hk => Below.heap_setCell _ _ _ _ (h.subQ k hk).2), h.subR, h.subP, h.subQ, h.rp_, h.rq_, h.pq_⟩
/-- A pipe whose senders' pew has changed. -/
theorem PipeOf.snd_ {w w' : World} {rb sp rp : Nat} {R P Q : Nat → Prop} (h : PipeOf w S g x rb sp rp R P Q) {L : List Wtr} (h' : PewAt w' (New P w w') sp L) (f : Frm P w w') :
  PipeOf w' (New S w w') g { x with senders := L } rb sp rp (fun k => R k ∧ k < w.heap.size) (New P w w') (fun k => Q k ∧ k < w.heap.size) := by
 have hg := lt_of_block h.row
 refine ⟨f.blk h.row (fun hp => (h.subP g hp).2 rfl), .inl h.own, h.ring.bound.move (fun k hk => f.block k hk.2 (fun hp => h.rp_ k hk.1 hp)), h', h.rcv.bound.move (fun k hk => f.block k hk.2 (fun hp => h.pq_ k hp hk.1)), fun k hk => ⟨.inl (h.subR k hk.1).1, (h.subR k hk.1).2⟩, fun k hk => ?_, fun k hk => ⟨.inl (h.subQ k hk.1).1, (h.subQ k hk.1).2⟩, fun k hk hp => ?_, fun k hk hq => h.rq_ k hk.1 hq.1, fun k hp hq => ?_⟩
 ·rcases hk with hk | hk
  ·exact ⟨.inl (h.subP k hk).1, (h.subP k hk).2⟩
  ·exact ⟨.inr hk, by omega⟩
 ·rcases hp with hp | hp
  ·exact h.rp_ k hk.1 hp
  ·have := hk.2
   omega
 ·rcases hp with hp | hp
  ·exact h.pq_ k hp hq.1
  ·have := hq.2
   omega
theorem PipeOf.rcv_ {w w' : World} {rb sp rp : Nat} {R P Q : Nat → Prop} (h : PipeOf w S g x rb sp rp R P Q) {L : List Wtr} (h' : PewAt w' (New Q w w') rp L) (f : Frm Q w w') :
  PipeOf w' (New S w w') g { x with receivers := L } rb sp rp (fun k => R k ∧ k < w.heap.size) (fun k => P k ∧ k < w.heap.size) (New Q w w') := by
 have hg := lt_of_block h.row
 refine ⟨f.blk h.row (fun hp => (h.subQ g hp).2 rfl), .inl h.own, h.ring.bound.move (fun k hk => f.block k hk.2 (fun hp => h.rq_ k hk.1 hp)), h.snd.bound.move (fun k hk => f.block k hk.2 (fun hp => h.pq_ k hk.1 hp)), h', fun k hk => ⟨.inl (h.subR k hk.1).1, (h.subR k hk.1).2⟩, fun k hk => ⟨.inl (h.subP k hk.1).1, (h.subP k hk.1).2⟩, fun k hk => ?_, fun k hk hp => h.rp_ k hk.1 hp.1, fun k hk hq => ?_, fun k hp hq => ?_⟩
 ·rcases hk with hk | hk
  ·exact ⟨.inl (h.subQ k hk).1, (h.subQ k hk).2⟩
  ·exact ⟨.inr hk, by omega⟩
 ·rcases hq with hq | hq
  ·exact h.rq_ k hk.1 hq
  ·have := hk.2
   omega
 ·rcases hq with hq | hq
  ·exact h.pq_ k hp.1 hq
  ·have := hp.2
   omega
theorem PipeOf.ring_ {w w' : World} {rb sp rp : Nat} {R P Q : Nat → Prop} (h : PipeOf w S g x rb sp rp R P Q) {L : List Int} (h' : RingAt w' R rb x.size L) (f : Frm R w w') :
  PipeOf w' S g { x with buf := L } rb sp rp R (fun k => P k ∧ k < w.heap.size) (fun k => Q k ∧ k < w.heap.size) :=
 ⟨f.blk h.row (fun hp => (h.subR g hp).2 rfl), h.own, h', h.snd.bound.move (fun k hk => f.block k hk.2 (fun hp => h.rp_ k hp hk.1)), h.rcv.bound.move (fun k hk => f.block k hk.2 (fun hp => h.rq_ k hp hk.1)), h.subR, fun k hk => h.subP k hk.1, fun k hk => h.subQ k hk.1,
  fun k hk hp => h.rp_ k hk hp.1, fun k hk hp => h.rq_ k hk hp.1, fun k hk hp => h.pq_ k hk.1 hp.1⟩
theorem PipeOf.later {w w' : World} {rb sp rp : Nat} {R P Q : Nat → Prop} (h : PipeOf w S g x rb sp rp R P Q) (f : Frm Nil w w') : PipeOf w' S g x rb sp rp R P Q :=
 ⟨f.blk h.row id, h.own, h.ring.move' f, h.snd.move' f, h.rcv.move' f, h.subR, h.subP, h.subQ, h.rp_, h.rq_, h.pq_⟩
theorem New.trans {S : Nat → Prop} {a b c : World} (h1 : a.heap.size ≤ b.heap.size) (h2 : b.heap.size ≤ c.heap.size) : ∀ k, New (New S a b) b c k → New S a c k := fun k h => by
 rcases h with (h | h) | h
 ·exact .inl h
 ·exact .inr ⟨h.1, by omega⟩
 ·exact .inr ⟨by omega, h.2⟩
def dropM (x : PipeM) (g : Int) : PipeM := { x with senders := without g x.senders, receivers := without g x.receivers }
set_option maxRecDepth 100000 in
set_option maxHeartbeats 400000 in
theorem pipe_drop (h : PipeAt w S g x) (hs : Fine x.senders) (hr : Fine x.receivers) (i : Int) : Calls Tryz.prog 216 #[.pointer (some ⟨g, 0, none⟩), .int .i64 i] w
  (PipePost S g w (.int .i64 (((x.senders.length : Int) - (without i x.senders).length) + ((x.receivers.length : Int) - (without i x.receivers).length))) (dropM x i)) := by
 obtain ⟨rb, sp, rp, R, P, Q, h⟩ := h
 have b1 := hs.1
 have b2 := hr.1
 have b3 := without_le i x.senders
 have b4 := without_le i x.receivers
 go_enter Tryz.func216, Tryz.ntmps216
 go_wp2_with fail
 refine (pipe_pew h true).mono ?_
 rintro e w' ⟨rfl, rfl⟩
 simp only [if_true]
 go_wp2_with fail
 refine (pew_drop h.snd hs i).mono ?_
 rintro e w1 ⟨rfl, h1, f1⟩
 have k1 := h.snd_ h1 f1
 go_wp2_with fail
 refine (pipe_pew k1 false).mono ?_
 rintro e w' ⟨rfl, rfl⟩
 simp only [Bool.false_eq_true, if_false]
 go_wp2_with fail
 refine (pew_drop k1.rcv hr i).mono ?_
 rintro e w2 ⟨rfl, h2, f2⟩
 have k2 := k1.rcv_ h2 f2
 go_wp2_with fail
 go_ret
 exact ⟨rfl, ⟨_, _, _, _, _, _, k2⟩ |> fun (hh : PipeAt _ _ _ _) => hh.mono (New.trans f1.size f2.size), (f1.mono (fun k _ hk => (h.subP k hk).1)).trans f2 (fun k hk hq => (h.subQ k hq.1).1)⟩
set_option maxHeartbeats 400000 in
theorem pipe_drop_nil (i : Int) (w : World) : Calls Tryz.prog 216 #[.pointer none, .int .i64 i] w fun e w' => e = .returned (.int .i64 0) ∧ Frm Nil w w' := by
 go_enter Tryz.func216, Tryz.ntmps216
 go_wp2_with fail
 refine (pipe_pew_nil true w).mono ?_
 rintro e w' ⟨rfl, rfl⟩
 go_wp2_with fail
 refine (pew_drop_nil i w).mono ?_
 rintro e w1 ⟨rfl, f1⟩
 go_wp2_with fail
 refine (pipe_pew_nil false w1).mono ?_
 rintro e w' ⟨rfl, rfl⟩
 go_wp2_with fail
 refine (pew_drop_nil i w1).mono ?_
 rintro e w2 ⟨rfl, f2⟩
 go_wp2_with fail
 go_ret
 exact ⟨rfl, f1.then f2⟩
end
end Go.Proofs.YtchkaaeoffmjnaaGreatDoor
namespace Go.Proofs.YtchkaaeoffmjnaaGreatDoor
set_option linter.unusedVariables false
set_option linter.unusedSimpArgs false
open Go.RowKit
structure GotM where
 ready : Bool
 ok : Bool
 woke : Bool
 value : Int
 mate : Wtr
 deriving DecidableEq
def GotM.cells (x : GotM) : List Value := [.bool x.ready, .bool x.ok, .bool x.woke, .int .i64 x.value, .int .i64 x.mate.g, .int .i64 x.mate.case_, .int .i64 x.mate.value]
def GotM.agg (x : GotM) : Value := .agg #[.bool x.ready, .bool x.ok, .bool x.woke, .int .i64 x.value, .int .i64 x.mate.g, .int .i64 x.mate.case_, .int .i64 x.mate.value]
def gzero : GotM := ⟨false, false, false, 0, wzero⟩
def sendF (x : PipeM) (v : Int) : (GotM × Int) × PipeM :=
 if x.closed then ((gzero, 90), x)
 else match x.receivers with
  | m :: l => ((⟨true, false, true, 0, m⟩, 0), { x with receivers := l, sent := x.sent + 1, received := x.received + 1 })
  | [] => if x.buf.length < x.size then ((⟨true, false, false, 0, wzero⟩, 0), { x with buf := x.buf ++ [v], sent := x.sent + 1 }) else ((gzero, 0), x)
/-- Counts that don't run over. -/
def Cnt (x : PipeM) : Prop := 0 ≤ x.sent ∧ x.sent ≤ 1000000000 ∧ 0 ≤ x.received ∧ x.received ≤ 1000000000
theorem box7 {w : World} {g : Nat} {a b c d e f h : Value} {t : Nat} (k : w.heap[g]? = some (.cells #[a, b, c, d, e, f, h] t (0, 0))) :
  w.cell? ⟨g, 0, none⟩ = some a ∧ w.cell? ⟨g, 1, none⟩ = some b ∧ w.cell? ⟨g, 2, none⟩ = some c ∧ w.cell? ⟨g, 3, none⟩ = some d ∧ w.cell? ⟨g, 4, none⟩ = some e ∧ w.cell? ⟨g, 5, none⟩ = some f ∧ w.cell? ⟨g, 6, none⟩ = some h ∧ (∀ i, w.frozen? ⟨g, i, none⟩ = false) :=
 ⟨row_cell k 0 rfl, row_cell k 1 rfl, row_cell k 2 rfl, row_cell k 3 rfl, row_cell k 4 rfl, row_cell k 5 rfl, row_cell k 6 rfl, row_free k⟩
section
variable {w : World} {S : Nat → Prop} {g : Nat} {x : PipeM}
set_option maxRecDepth 100000 in
set_option maxHeartbeats 400000 in
theorem send_closed (h : PipeAt w S g x) (hc : x.closed = true) (v : Int) : Calls Tryz.prog 195 #[.pointer (some ⟨g, 0, none⟩), .int .i64 v] w fun e w' => e = .returned (.tuple #[gzero.agg, .int .i64 90]) ∧ Frm Nil w w' := by
 have k1 := fun (w' : World) (f : Frm Nil w w') => pipe_closed (h.move' f)
 rw [hc] at k1
 have K1 := Lib.hid k1
 clear k1 hc
 unfold gzero GotM.agg wzero
 dsimp only
 go_enter Tryz.func195, Tryz.ntmps195
 go_wp2_with fail
 refine (K1.out _ (by repeat (first | exact Frm.refl _ _ | apply Frm.drewN | apply Frm.drew | apply Frm.alloc | (refine Frm.then ?_ (by assumption))))).mono ?_
 rintro e w1 ⟨rfl, f1⟩
 have fw := Frm.then (Frm.alloc (Frm.refl Nil w) _) f1
 have rb := box_at f1 id
 have rl := lt_of_block rb
 obtain ⟨r, hr⟩ : ∃ r, w.heap.size = r := ⟨_, rfl⟩
 rw [hr] at rb rl ⊢
 obtain ⟨r0, r1, r2, r3, r4, r5, r6, rf⟩ := box7 rb
 have HR := Lib.hid hr
 clear hr
 go_wp2_with fail
 refine bodyPost_ret (v := .tuple #[.agg #[.bool false, .bool false, .bool false, .int .i64 0, .int .i64 0, .int .i64 0, .int .i64 0], .int .i64 90]) (by simp [results, Tryz.results195, go_sem, r0, r1, r2, r3, r4, r5, r6, rl]) rfl ⟨rfl, ?_⟩
 have hn : ∀ p : Addr, p.block = r → p.block < w.heap.size → Nil p.block := fun p hp h => by have := HR.out; omega
 exact (((((((fw).setCell (p := ⟨r, 0, none⟩) (hn _ rfl) (.bool false)).setCell (p := ⟨r, 1, none⟩) (hn _ rfl) (.bool false)).setCell (p := ⟨r, 2, none⟩) (hn _ rfl) (.bool false)).setCell (p := ⟨r, 3, none⟩) (hn _ rfl) (.int .i64 0)).setCell (p := ⟨r, 4, none⟩) (hn _ rfl) (.int .i64 0)).setCell (p := ⟨r, 5, none⟩) (hn _ rfl) (.int .i64 0)).setCell (p := ⟨r, 6, none⟩) (hn _ rfl) (.int .i64 0)
set_option maxRecDepth 100000 in
set_option maxHeartbeats 400000 in
theorem send_no (h : PipeAt w S g x) (hc : x.closed = false) (hr : readyF x true = false) (v : Int) : Calls Tryz.prog 195 #[.pointer (some ⟨g, 0, none⟩), .int .i64 v] w fun e w' => e = .returned (.tuple #[gzero.agg, .int .i64 0]) ∧ Frm Nil w w' := by
 have k1 := fun (w' : World) (f : Frm Nil w w') => pipe_closed (h.move' f)
 have k2 := fun (w' : World) (f : Frm Nil w w') => pipe_ready (h.move' f) true
 rw [hc] at k1
 rw [hr] at k2
 have K1 := Lib.hid k1
 have K2 := Lib.hid k2
 clear k1 k2 hc hr
 unfold gzero GotM.agg wzero
 dsimp only
 go_enter Tryz.func195, Tryz.ntmps195
 go_wp2_with fail
 refine (K1.out _ (by repeat (first | exact Frm.refl _ _ | apply Frm.drewN | apply Frm.drew | apply Frm.alloc | (refine Frm.then ?_ (by assumption))))).mono ?_
 rintro e w0 ⟨rfl, f0⟩
 go_wp2_with fail
 refine (K2.out _ (by repeat (first | exact Frm.refl _ _ | apply Frm.drewN | apply Frm.drew | apply Frm.alloc | (refine Frm.then ?_ (by assumption))))).mono ?_
 rintro e w1 ⟨rfl, f1'⟩
 have f1 := f0.then f1'
 have fw := Frm.then (Frm.alloc (Frm.refl Nil w) _) f1
 have rb := box_at f1 id
 have rl := lt_of_block rb
 obtain ⟨r, hr⟩ : ∃ r, w.heap.size = r := ⟨_, rfl⟩
 rw [hr] at rb rl ⊢
 obtain ⟨r0, r1, r2, r3, r4, r5, r6, rf⟩ := box7 rb
 have HR := Lib.hid hr
 clear hr
 go_wp2_with fail
 refine bodyPost_ret (v := .tuple #[.agg #[.bool false, .bool false, .bool false, .int .i64 0, .int .i64 0, .int .i64 0, .int .i64 0], .int .i64 0]) (by simp [results, Tryz.results195, go_sem, r0, r1, r2, r3, r4, r5, r6, rl]) rfl ⟨rfl, ?_⟩
 have hn : ∀ p : Addr, p.block = r → p.block < w.heap.size → Nil p.block := fun p hp h => by have := HR.out; omega
 exact (((((((fw).setCell (p := ⟨r, 0, none⟩) (hn _ rfl) (.bool false)).setCell (p := ⟨r, 1, none⟩) (hn _ rfl) (.bool false)).setCell (p := ⟨r, 2, none⟩) (hn _ rfl) (.bool false)).setCell (p := ⟨r, 3, none⟩) (hn _ rfl) (.int .i64 0)).setCell (p := ⟨r, 4, none⟩) (hn _ rfl) (.int .i64 0)).setCell (p := ⟨r, 5, none⟩) (hn _ rfl) (.int .i64 0)).setCell (p := ⟨r, 6, none⟩) (hn _ rfl) (.int .i64 0)
set_option maxRecDepth 100000 in
set_option maxHeartbeats 400000 in
theorem send_woke (h : PipeAt w S g x) (hc : x.closed = false) {m : Wtr} {l : List Wtr} (hr : x.receivers = m :: l) (hl : l.length < 1000000) (hn : Cnt x) (v : Int) : Calls Tryz.prog 195 #[.pointer (some ⟨g, 0, none⟩), .int .i64 v] w
  (PipePost S g w (.tuple #[(⟨true, false, true, 0, m⟩ : GotM).agg, .int .i64 0]) { x with receivers := l, sent := x.sent + 1, received := x.received + 1 }) := by
 have k1 := fun (w' : World) (f : Frm Nil w w') => pipe_closed (h.move' f)
 have k2 := fun (w' : World) (f : Frm Nil w w') => pipe_ready (h.move' f) true
 rw [hc] at k1
 rw [show readyF x true = true by unfold readyF; simp [hr]] at k2
 have K1 := Lib.hid k1
 have K2 := Lib.hid k2
 clear k1 k2
 obtain ⟨b1, b2, b3, b4⟩ := hn
 obtain ⟨mg, mc, mv⟩ := m
 unfold GotM.agg
 dsimp only
 go_enter Tryz.func195, Tryz.ntmps195
 go_wp2_with fail
 refine (K1.out _ (by repeat (first | exact Frm.refl _ _ | apply Frm.drewN | apply Frm.drew | apply Frm.alloc | (refine Frm.then ?_ (by assumption))))).mono ?_
 rintro e w0 ⟨rfl, f0⟩
 go_wp2_with fail
 refine (K2.out _ (by repeat (first | exact Frm.refl _ _ | apply Frm.drewN | apply Frm.drew | apply Frm.alloc | (refine Frm.then ?_ (by assumption))))).mono ?_
 rintro e w1 ⟨rfl, f1'⟩
 have f1 := f0.then f1'
 have fw := Frm.then (Frm.alloc (Frm.refl Nil w) _) f1
 have rb := box_at f1 id
 have rl := lt_of_block rb
 have hb := h.bound
 obtain ⟨rgb, sp, rp, R, P, Q, h0⟩ := hb
 have h1 := h0.move (fun k hk => fw.block k hk.2 id)
 obtain ⟨c0, c1, c2, c3, c4, c5, cf⟩ := pipe_cells h1.row
 have gr := h0.own.2
 obtain ⟨r, hr'⟩ : ∃ r, w.heap.size = r := ⟨_, rfl⟩
 have hlo : ∀ k, (S k ∧ k < w.heap.size) → k < r := fun k hk => by rw [← hr']; exact hk.2
 rw [hr'] at rb rl gr
 rw [hr']
 have hgr : g ≠ r := by omega
 have hrg : r ≠ g := by omega
 have HR := Lib.hid hr'
 have HX := Lib.hid hr
 clear hr' hr
 go_wp2_with fail
 have h2 := h1.sent_ (x.sent + 1)
 have h3 := h2.rcv
 dsimp only at h3
 rw [HX.out] at h3
 refine (pew_take h3 hl).mono ?_
 rintro e w2 ⟨rfl, h4, f4⟩
 have h5 := h2.rcv_ h4 f4
 have rb2 : w2.heap[r]? = _ := f4.blk (blk_far rb (p := ⟨g, 4, none⟩) hrg _) (fun hq => by have := hlo _ (h0.subQ r hq).1; omega)
 have rl2 := lt_of_block rb2
 have gl2 := lt_of_block h5.row
 obtain ⟨r0, r1, r2, r3, r4, r5, r6, rf⟩ := box7 rb2
 obtain ⟨d0, d1, d2, d3, d4, d5, df⟩ := pipe_cells h5.row
 unfold Wtr.agg
 dsimp only at d3 d4 d5 ⊢
 go_wp2_with fail
 refine bodyPost_ret (v := .tuple #[.agg #[.bool true, .bool false, .bool true, .int .i64 0, .int .i64 mg, .int .i64 mc, .int .i64 mv], .int .i64 0]) (by simp [results, Tryz.results195, go_sem, r0, r1, r2, r3, r4, r5, r6, rl2, hgr, hrg]) rfl ?_
 have s1 : (w1.setCell ⟨g, 4, none⟩ (.int .i64 (x.sent + 1))).heap.size = w1.heap.size := by simp [World.setCell]
 have hr2 : ¬ New (fun k => S k ∧ k < w.heap.size) (w1.setCell ⟨g, 4, none⟩ (.int .i64 (x.sent + 1))) w2 r := fun hk => hk.elim (fun h => by have := hlo r h; omega) (fun h => by omega)
 have h6 := h5.received_ (x.received + 1)
 have z0 : Frm (fun k => k = r) (w2.setCell ⟨g, 5, none⟩ (.int .i64 (x.received + 1))) (w2.setCell ⟨g, 5, none⟩ (.int .i64 (x.received + 1))) := Frm.refl _ _
 have z1 := (((((((z0).setCell (p := ⟨r, 0, none⟩) (fun _ => rfl) (.bool true)).setCell (p := ⟨r, 1, none⟩) (fun _ => rfl) (.bool false)).setCell (p := ⟨r, 2, none⟩) (fun _ => rfl) (.bool true)).setCell (p := ⟨r, 3, none⟩) (fun _ => rfl) (.int .i64 0)).setCell (p := ⟨r, 4, none⟩) (fun _ => rfl) (.int .i64 mg)).setCell (p := ⟨r, 5, none⟩) (fun _ => rfl) (.int .i64 mc)).setCell (p := ⟨r, 6, none⟩) (fun _ => rfl) (.int .i64 mv)
 have h7 := h6.bound.move (fun k hk => z1.block k hk.2 (fun e => hr2 (by rw [← e]; exact hk.1)))
 have h8 : PipeAt _ _ g { x with receivers := l, sent := x.sent + 1, received := x.received + 1 } := ⟨_, _, _, _, _, _, h7⟩
 have y1 : Frm S w _ := ((fw.nil (S := S)).setCell (p := ⟨g, 4, none⟩) (fun _ => h0.own.1) (.int .i64 (x.sent + 1))).trans f4 (fun k _ hq => (h0.subQ k hq).1.1)
 have y2 := (y1.setCell (p := ⟨g, 5, none⟩) (fun _ => h0.own.1) (.int .i64 (x.received + 1))).trans z1 (fun k hk e => by have := HR.out; omega)
 rw [show ({ size := x.size, buf := x.buf, senders := x.senders, receivers := l, closed := false, sent := x.sent + 1, received := x.received + 1 } : PipeM) = { x with receivers := l, sent := x.sent + 1, received := x.received + 1 } by rw [← hc]]
 refine ⟨rfl, (h8.move' ((Frm.refl _ _).alloc _)).mono (fun k hk => ?_), y2.alloc _⟩
 have hk1 := hk.2
 simp [World.setCell] at hk1
 rcases hk.1 with hk | hk
 ·exact .inl hk.1
 ·refine .inr ⟨?_, by simp [World.setCell]; omega⟩
  have := fw.size
  omega
set_option maxRecDepth 100000 in
set_option maxHeartbeats 400000 in
theorem send_push (h : PipeAt w S g x) (hc : x.closed = false) (hr : x.receivers = []) (hz : x.buf.length < x.size) (hn : Cnt x) (v : Int) : Calls Tryz.prog 195 #[.pointer (some ⟨g, 0, none⟩), .int .i64 v] w
  (PipePost S g w (.tuple #[(⟨true, false, false, 0, wzero⟩ : GotM).agg, .int .i64 0]) { x with buf := x.buf ++ [v], sent := x.sent + 1 }) := by
 have k1 := fun (w' : World) (f : Frm Nil w w') => pipe_closed (h.move' f)
 have k2 := fun (w' : World) (f : Frm Nil w w') => pipe_ready (h.move' f) true
 rw [hc] at k1
 rw [show readyF x true = true by unfold readyF; simp [hz]] at k2
 have K1 := Lib.hid k1
 have K2 := Lib.hid k2
 clear k1 k2
 obtain ⟨b1, b2, b3, b4⟩ := hn
 unfold GotM.agg wzero
 dsimp only
 have HC := Lib.hid hc
 clear hc
 go_enter Tryz.func195, Tryz.ntmps195
 go_wp2_with fail
 refine (K1.out _ (by repeat (first | exact Frm.refl _ _ | apply Frm.drewN | apply Frm.drew | apply Frm.alloc | (refine Frm.then ?_ (by assumption))))).mono ?_
 rintro e w0 ⟨rfl, f0⟩
 go_wp2_with fail
 refine (K2.out _ (by repeat (first | exact Frm.refl _ _ | apply Frm.drewN | apply Frm.drew | apply Frm.alloc | (refine Frm.then ?_ (by assumption))))).mono ?_
 rintro e w1 ⟨rfl, f1'⟩
 have f1 := f0.then f1'
 have fw := Frm.then (Frm.alloc (Frm.refl Nil w) _) f1
 have rb := box_at f1 id
 have rl := lt_of_block rb
 have hb := h.bound
 obtain ⟨rgb, sp, rp, R, P, Q, h0⟩ := hb
 have h1 := h0.move (fun k hk => fw.block k hk.2 id)
 obtain ⟨c0, c1, c2, c3, c4, c5, cf⟩ := pipe_cells h1.row
 have gr := h0.own.2
 obtain ⟨r, hr'⟩ : ∃ r, w.heap.size = r := ⟨_, rfl⟩
 have hlo : ∀ k, (S k ∧ k < w.heap.size) → k < r := fun k hk => by rw [← hr']; exact hk.2
 rw [hr'] at rb rl gr
 rw [hr']
 have hgr : g ≠ r := by omega
 have hrg : r ≠ g := by omega
 have HR := Lib.hid hr'
 have HX := Lib.hid hr
 clear hr' hr
 go_wp2_with fail
 have h2 := h1.sent_ (x.sent + 1)
 have h3 := h2.rcv
 dsimp only at h3
 rw [HX.out] at h3
 refine (pew_take_none h3).mono ?_
 rintro e w2 ⟨rfl, h4, f4⟩
 have h5 := h2.rcv_ h4 f4
 have rb2 : w2.heap[r]? = _ := f4.blk (blk_far rb (p := ⟨g, 4, none⟩) hrg _) (fun hq => by have := hlo _ (h0.subQ r hq).1; omega)
 have rl2 := lt_of_block rb2
 have gl2 := lt_of_block h5.row
 have s1 : (w1.setCell ⟨g, 4, none⟩ (.int .i64 (x.sent + 1))).heap.size = w1.heap.size := by simp [World.setCell]
 have hr2 : ¬ New (fun k => S k ∧ k < w.heap.size) (w1.setCell ⟨g, 4, none⟩ (.int .i64 (x.sent + 1))) w2 r := fun hk => hk.elim (fun h => by have := hlo r h; omega) (fun h => by omega)
 obtain ⟨r0, r1, r2, r3, r4, r5, r6, rf⟩ := box7 rb2
 obtain ⟨d0, d1, d2, d3, d4, d5, df⟩ := pipe_cells h5.row
 unfold wzero Wtr.agg
 dsimp only at d3 d4 d5 ⊢
 go_wp2_with fail
 have h5a := h5.later ((Frm.refl Nil w2).alloc (.cells #[.int .i64 0, .int .i64 0, .int .i64 0] 225))
 refine (ring_push_ok h5a.ring hz v).mono ?_
 rintro e w3 ⟨rfl, h6, f6⟩
 have h7 := h5a.ring_ h6 f6
 have hrA : r < (w2.alloc (.cells #[.int .i64 0, .int .i64 0, .int .i64 0] 225)).heap.size := by simp; omega
 have rb3 : w3.heap[r]? = _ := f6.blk ((Below.heap_alloc w2 _ r rl2).trans rb2) (fun hq => hr2 ((h5a.subR r hq).1))
 have rl3 := lt_of_block rb3
 clear r0 r1 r2 r3 r4 r5 r6 rf d0 d1 d2 d3 d4 d5 df
 obtain ⟨r0, r1, r2, r3, r4, r5, r6, rf⟩ := box7 rb3
 go_wp2_with fail
 refine bodyPost_ret (v := .tuple #[.agg #[.bool true, .bool false, .bool false, .int .i64 0, .int .i64 0, .int .i64 0, .int .i64 0], .int .i64 0]) (by simp [results, Tryz.results195, go_sem, r0, r1, r2, r3, r4, r5, r6, rl3, hgr, hrg]) rfl ?_
 have z0 : Frm (fun k => k = r) w3 w3 := Frm.refl _ _
 have z1 := (((((((z0).setCell (p := ⟨r, 0, none⟩) (fun _ => rfl) (.bool true)).setCell (p := ⟨r, 1, none⟩) (fun _ => rfl) (.bool false)).setCell (p := ⟨r, 2, none⟩) (fun _ => rfl) (.bool false)).setCell (p := ⟨r, 3, none⟩) (fun _ => rfl) (.int .i64 0)).setCell (p := ⟨r, 4, none⟩) (fun _ => rfl) (.int .i64 0)).setCell (p := ⟨r, 5, none⟩) (fun _ => rfl) (.int .i64 0)).setCell (p := ⟨r, 6, none⟩) (fun _ => rfl) (.int .i64 0)
 have h8 := h7.bound.move (fun k hk => z1.block k hk.2 (fun e => hr2 (by rw [← e]; exact hk.1)))
 have h9 : PipeAt _ _ g { x with buf := x.buf ++ [v], receivers := [], sent := x.sent + 1 } := ⟨_, _, _, _, _, _, h8⟩
 have y1 : Frm S w _ := ((fw.nil (S := S)).setCell (p := ⟨g, 4, none⟩) (fun _ => h0.own.1) (.int .i64 (x.sent + 1))).trans f4 (fun k _ hq => (h0.subQ k hq).1.1)
 have y2 := ((y1.alloc (.cells #[.int .i64 0, .int .i64 0, .int .i64 0] 225)).trans f6 (fun k hk hq => by
  rcases (h5a.subR k hq).1 with h | h
  ·exact h.1
  ·have := fw.size
   omega)).trans z1 (fun k hk e => by have := HR.out; omega)
 rw [show ({ size := x.size, buf := x.buf ++ [v], senders := x.senders, receivers := x.receivers, closed := x.closed, sent := x.sent + 1, received := x.received } : PipeM) = { x with buf := x.buf ++ [v], receivers := [], sent := x.sent + 1 } by rw [HX.out]]
 refine ⟨rfl, h9.mono (fun k hk => ?_), y2⟩
 have hk1 := hk.2
 have hk2 := z1.size
 rcases hk.1 with hk | hk
 ·exact .inl hk.1
 ·refine .inr ⟨?_, by omega⟩
  have := fw.size
  omega
end
end Go.Proofs.YtchkaaeoffmjnaaGreatDoor
namespace Go.Proofs.YtchkaaeoffmjnaaGreatDoor
set_option linter.unusedVariables false
set_option linter.unusedSimpArgs false
open Go.RowKit
section
variable {w : World} {S : Nat → Prop} {g : Nat} {x : PipeM}
theorem PipePost.of_nil (h : PipeAt w S g x) {r : Value} {e : Ending} {w' : World} (q : e = .returned r ∧ Frm Nil w w') : PipePost S g w r x e w' :=
 ⟨q.1, (h.move' q.2).mono (fun k hk => .inl hk), q.2.nil⟩
theorem pipe_send (h : PipeAt w S g x) (hl : x.receivers.length ≤ 1000000) (hn : Cnt x) (v : Int) : Calls Tryz.prog 195 #[.pointer (some ⟨g, 0, none⟩), .int .i64 v] w
  (PipePost S g w (.tuple #[(sendF x v).1.1.agg, .int .i64 (sendF x v).1.2]) (sendF x v).2) := by
 by_cases hc : x.closed = true
 ·rw [show sendF x v = ((gzero, 90), x) by unfold sendF; rw [if_pos hc]]
  exact (send_closed h hc v).mono (fun e w' q => PipePost.of_nil h q)
 ·have hc' : x.closed = false := by simpa using hc
  rcases hr : x.receivers with _ | ⟨m, l⟩
  ·by_cases hz : x.buf.length < x.size
   ·rw [show sendF x v = ((⟨true, false, false, 0, wzero⟩, 0), { x with buf := x.buf ++ [v], sent := x.sent + 1 }) by unfold sendF; rw [if_neg hc, hr]; simp [hz]]
    exact send_push h hc' hr hz hn v
   ·rw [show sendF x v = ((gzero, 0), x) by unfold sendF; rw [if_neg hc, hr]; simp [hz]]
    exact (send_no h hc' (by unfold readyF; simp [hc', hr, hz]) v).mono (fun e w' q => PipePost.of_nil h q)
  ·rw [show sendF x v = ((⟨true, false, true, 0, m⟩, 0), { x with receivers := l, sent := x.sent + 1, received := x.received + 1 }) by unfold sendF; rw [if_neg hc, hr]]
   exact send_woke h hc' hr (by rw [hr] at hl; simp at hl; omega) hn v
end
set_option maxRecDepth 100000 in
set_option maxHeartbeats 400000 in
theorem pipe_send_nil (v : Int) (w : World) : Calls Tryz.prog 195 #[.pointer none, .int .i64 v] w fun e w' => e = .returned (.tuple #[gzero.agg, .int .i64 0]) ∧ Frm Nil w w' := by
 unfold gzero GotM.agg wzero
 dsimp only
 go_enter Tryz.func195, Tryz.ntmps195
 go_wp2_with fail
 refine (pipe_closed_nil _).mono ?_
 rintro e w0 ⟨rfl, f0⟩
 go_wp2_with fail
 refine (pipe_ready_nil true w0).mono ?_
 rintro e w1 ⟨rfl, f1'⟩
 have f1 := f0.then f1'
 have fw := Frm.then (Frm.alloc (Frm.refl Nil w) _) f1
 have rb := box_at f1 id
 have rl := lt_of_block rb
 obtain ⟨r, hr⟩ : ∃ r, w.heap.size = r := ⟨_, rfl⟩
 rw [hr] at rb rl ⊢
 obtain ⟨r0, r1, r2, r3, r4, r5, r6, rf⟩ := box7 rb
 have HR := Lib.hid hr
 clear hr
 go_wp2_with fail
 refine bodyPost_ret (v := .tuple #[.agg #[.bool false, .bool false, .bool false, .int .i64 0, .int .i64 0, .int .i64 0, .int .i64 0], .int .i64 0]) (by simp [results, Tryz.results195, go_sem, r0, r1, r2, r3, r4, r5, r6, rl]) rfl ⟨rfl, ?_⟩
 have hn : ∀ p : Addr, p.block = r → p.block < w.heap.size → Nil p.block := fun p hp h => by have := HR.out; omega
 exact (((((((fw).setCell (p := ⟨r, 0, none⟩) (hn _ rfl) (.bool false)).setCell (p := ⟨r, 1, none⟩) (hn _ rfl) (.bool false)).setCell (p := ⟨r, 2, none⟩) (hn _ rfl) (.bool false)).setCell (p := ⟨r, 3, none⟩) (hn _ rfl) (.int .i64 0)).setCell (p := ⟨r, 4, none⟩) (hn _ rfl) (.int .i64 0)).setCell (p := ⟨r, 5, none⟩) (hn _ rfl) (.int .i64 0)).setCell (p := ⟨r, 6, none⟩) (hn _ rfl) (.int .i64 0)
theorem pipe_close_nil (w : World) : Calls Tryz.prog 162 #[.pointer none] w fun e w' => e = .returned (.tuple #[.slice none 0 0, .slice none 0 0, .int .i64 6]) ∧ Frm Nil w w' := by
 go_enter Tryz.func162, Tryz.ntmps162
 go_wp2_with fail
 go_ret3
 exact ⟨rfl, Frm.refl _ _⟩
end Go.Proofs.YtchkaaeoffmjnaaGreatDoor
namespace Go.Proofs.YtchkaaeoffmjnaaGreatDoor
set_option linter.unusedVariables false
set_option linter.unusedSimpArgs false
open Go.RowKit
section
variable {w : World} {S : Nat → Prop} {g pb gb : Nat} {x : PipeM}
theorem box1 {w : World} {g : Nat} {a : Value} {t : Nat} (k : w.heap[g]? = some (.cells #[a] t (0, 0))) :
  w.cell? ⟨g, 0, none⟩ = some a ∧ (∀ i, w.frozen? ⟨g, i, none⟩ = false) :=
 ⟨row_cell k 0 rfl, row_free k⟩
theorem recv3 (v : Int) (w : World) : Calls Tryz.prog 215 #[.int .i64 v] w fun e w' => e = .returned (.int .i64 v) ∧ w = w' := by
 go_enter Tryz.func215, Tryz.ntmps215
 go_wp2_with fail
 go_ret
 exact ⟨rfl, rfl⟩
theorem recv2_none {y : GotM} {a : Int} {L : List Int} (h : PipeAt w S g x) (hb : x.buf = a :: L) (hp : w.heap[pb]? = some (.cells #[.pointer (some ⟨g, 0, none⟩)] 176 (0, 0)))
  (hg : w.heap[gb]? = some (.cells y.cells.toArray 227 (0, 0))) (pS : ¬ S pb) (gS : ¬ S gb) (hw : y.woke = false) (v : Int) :
  Calls Tryz.prog 213 #[.int .i64 v, .pointer (some ⟨pb, 0, none⟩), .pointer (some ⟨gb, 0, none⟩)] w
   (PipePost S g w (.int .i64 a) { x with buf := L }) := by
 obtain ⟨rgb, sp, rp, R, P, Q, h0⟩ := h
 obtain ⟨c0, c1, c2, c3, c4, c5, cf⟩ := pipe_cells h0.row
 obtain ⟨p0, pf⟩ := box1 hp
 go_enter Tryz.func213, Tryz.ntmps213
 go_wp2_with fail
 have h1 := h0.ring
 rw [hb] at h1
 refine (ring_pop h1).mono ?_
 rintro e w1 ⟨rfl, h2, f2⟩
 have h3 := h0.ring_ h2 f2
 have g1 : w1.heap[gb]? = _ := f2.blk hg (fun hq => gS (h0.subR gb hq).1)
 obtain ⟨r0, r1, r2, r3, r4, r5, r6, rf⟩ := box7 g1
 rw [hw] at r2
 go_wp2_with fail
 go_ret
 exact ⟨rfl, PipeAt.mono (⟨_, _, _, _, _, _, h3⟩ : PipeAt w1 S g { x with buf := L }) (fun k hk => .inl hk), f2.mono (fun k _ hq => (h0.subR k hq).1)⟩
theorem recv2_woke {y : GotM} {a : Int} {L : List Int} (h : PipeAt w S g x) (hb : x.buf = a :: L) (hz : L.length < x.size) (hp : w.heap[pb]? = some (.cells #[.pointer (some ⟨g, 0, none⟩)] 176 (0, 0)))
  (hg : w.heap[gb]? = some (.cells y.cells.toArray 227 (0, 0))) (pS : ¬ S pb) (gS : ¬ S gb) (hw : y.woke = true) (v : Int) :
  Calls Tryz.prog 213 #[.int .i64 v, .pointer (some ⟨pb, 0, none⟩), .pointer (some ⟨gb, 0, none⟩)] w
   (PipePost S g w (.int .i64 a) { x with buf := L ++ [v] }) := by
 obtain ⟨rgb, sp, rp, R, P, Q, h0⟩ := h
 obtain ⟨c0, c1, c2, c3, c4, c5, cf⟩ := pipe_cells h0.row
 obtain ⟨p0, pf⟩ := box1 hp
 go_enter Tryz.func213, Tryz.ntmps213
 go_wp2_with fail
 have h1 := h0.ring
 rw [hb] at h1
 refine (ring_pop h1).mono ?_
 rintro e w1 ⟨rfl, h2, f2⟩
 have h3 := h0.ring_ h2 f2
 have g1 : w1.heap[gb]? = _ := f2.blk hg (fun hq => gS (h0.subR gb hq).1)
 have p1 : w1.heap[pb]? = _ := f2.blk hp (fun hq => pS (h0.subR pb hq).1)
 obtain ⟨r0, r1, r2, r3, r4, r5, r6, rf⟩ := box7 g1
 rw [hw] at r2
 obtain ⟨q0, qf⟩ := box1 p1
 obtain ⟨d0, d1, d2, d3, d4, d5, df⟩ := pipe_cells h3.row
 go_wp2_with fail
 refine (ring_push_ok h3.ring hz v).mono ?_
 rintro e w2 ⟨rfl, h4, f4⟩
 have h5 := h3.ring_ h4 f4
 go_wp2_with fail
 go_ret
 exact ⟨rfl, PipeAt.mono (⟨_, _, _, _, _, _, h5⟩ : PipeAt w2 S g { x with buf := L ++ [v] }) (fun k hk => .inl hk), (f2.mono (fun k _ hq => (h0.subR k hq).1)).trans f4 (fun k _ hq => (h0.subR k hq).1)⟩
set_option maxRecDepth 100000 in
set_option maxHeartbeats 400000 in
theorem recv1_none {a : Int} {L : List Int} (h : PipeAt w S g x) (hb : x.buf = a :: L) (hs : x.senders = []) (hn : Cnt x) (hp : w.heap[pb]? = some (.cells #[.pointer (some ⟨g, 0, none⟩)] 176 (0, 0)))
  (hg : w.heap[gb]? = some (.cells #[.bool true, .bool false, .bool false, .int .i64 0, .int .i64 0, .int .i64 0, .int .i64 0] 227 (0, 0))) (pS : ¬ S pb) (gS : ¬ S gb) (ne : pb ≠ gb) :
  Calls Tryz.prog 212 #[.func (.func 213) #[] #[.pointer (some ⟨pb, 0, none⟩), .pointer (some ⟨gb, 0, none⟩)], .pointer (some ⟨gb, 0, none⟩), .pointer (some ⟨pb, 0, none⟩)] w
   fun e w' => e = .returned (.tuple #[]) ∧ PipeAt w' (New S w w') g { x with buf := L, received := x.received + 1 } ∧
    w'.heap[gb]? = some (.cells #[.bool true, .bool true, .bool false, .int .i64 a, .int .i64 0, .int .i64 0, .int .i64 0] 227 (0, 0)) ∧ Frm (fun k => S k ∨ k = gb) w w' := by
 obtain ⟨b1, b2, b3, b4⟩ := hn
 obtain ⟨rgb, sp, rp, R, P, Q, h0⟩ := h.bound
 obtain ⟨c0, c1, c2, c3, c4, c5, cf⟩ := pipe_cells h0.row
 obtain ⟨p0, pf⟩ := box1 hp
 obtain ⟨r0, r1, r2, r3, r4, r5, r6, rf⟩ := box7 hg
 have gg : g ≠ gb := fun e => gS (by rw [← e]; exact h0.own.1)
 have gg' : gb ≠ g := fun e => gg e.symm
 have gp : g ≠ pb := fun e => pS (by rw [← e]; exact h0.own.1)
 have gp' : pb ≠ g := fun e => gp e.symm
 have ne' : gb ≠ pb := fun e => ne e.symm
 have l0 := lt_of_block h0.row
 have l1 := lt_of_block hp
 have l2 := lt_of_block hg
 have HX := Lib.hid hs
 have HB := Lib.hid hb
 clear hs hb
 go_enter Tryz.func212, Tryz.ntmps212
 go_wp2_with fail
 have e0 : Frm (fun k => k = gb) w w := Frm.refl _ _
 have y0 := e0.setCell (p := ⟨gb, 1, none⟩) (fun _ => rfl) (.bool true)
 have h1 := h0.move (fun k hk => y0.block k hk.2 (fun e => gS (by rw [← e]; exact hk.1)))
 have h2 := h1.received_ (x.received + 1)
 have h3 := h2.snd
 dsimp only at h3
 rw [HX.out] at h3
 refine (pew_take_none h3).mono ?_
 rintro e w2 ⟨rfl, h4, f4⟩
 have h5 := h2.snd_ h4 f4
 have g1 := blk_far (blk_set hg 1 (.bool true)) (p := ⟨g, 5, none⟩) gg' (.int .i64 (x.received + 1))
 have g2 := f4.blk g1 (fun hq => gS (h0.subP gb hq).1.1)
 have q2 := f4.blk (blk_far (blk_far hp (p := ⟨gb, 1, none⟩) ne (.bool true)) (p := ⟨g, 5, none⟩) gp' (.int .i64 (x.received + 1))) (fun hq => pS (h0.subP pb hq).1.1)
 dsimp [Array.setIfInBounds] at g2
 obtain ⟨s0, s1, s2, s3, s4, s5, s6, sf⟩ := box7 g2
 obtain ⟨u0, uf⟩ := box1 q2
 obtain ⟨d0, d1, d2, d3, d4, d5, df⟩ := pipe_cells h5.row
 unfold wzero Wtr.agg
 dsimp only at d3 d4 d5 ⊢
 have hT : ¬ New (fun k => S k ∧ k < w.heap.size) ((w.setCell ⟨gb, 1, none⟩ (.bool true)).setCell ⟨g, 5, none⟩ (.int .i64 (x.received + 1))) w2 gb := fun hk => hk.elim (fun h => gS h.1) (fun h => by have := h.1; simp [World.setCell] at this; omega)
 have hTp : ¬ New (fun k => S k ∧ k < w.heap.size) ((w.setCell ⟨gb, 1, none⟩ (.bool true)).setCell ⟨g, 5, none⟩ (.int .i64 (x.received + 1))) w2 pb := fun hk => hk.elim (fun h => pS h.1) (fun h => by have := h.1; simp [World.setCell] at this; omega)
 have e2 : Frm (fun k => k = gb) w2 w2 := Frm.refl _ _
 have y2 := (((e2.setCell (p := ⟨gb, 4, none⟩) (fun _ => rfl) (.int .i64 0)).setCell (p := ⟨gb, 5, none⟩) (fun _ => rfl) (.int .i64 0)).setCell (p := ⟨gb, 6, none⟩) (fun _ => rfl) (.int .i64 0)).setCell (p := ⟨gb, 2, none⟩) (fun _ => rfl) (.bool false)
 have h6 := h5.bound.move (fun k hk => y2.block k hk.2 (fun e => by subst e; exact hT hk.1))
 have g3 := blk_set (blk_set (blk_set (blk_set g2 4 (.int .i64 0)) 5 (.int .i64 0)) 6 (.int .i64 0)) 2 (.bool false)
 have q3 := y2.blk q2 ne
 go_wp2_with fail
 refine (recv2_none (y := ⟨true, true, false, 0, wzero⟩) ⟨_, _, _, _, _, _, h6⟩ HB.out q3 g3 (fun h => hTp h.1) (fun h => hT h.1) rfl 0).mono ?_
 rintro e w4 ⟨rfl, h7, f7⟩
 have g4 := f7.blk g3 (fun h => hT h.1)
 dsimp [Array.setIfInBounds] at g4
 obtain ⟨t0, t1, t2, t3, t4, t5, t6, tf⟩ := box7 g4
 go_wp2_with fail
 go_end0
 have e4 : Frm (fun k => k = gb) w4 w4 := Frm.refl _ _
 have y4 := e4.setCell (p := ⟨gb, 3, none⟩) (fun _ => rfl) (.int .i64 a)
 have hT4 : ¬ New (fun k => New (fun k => S k ∧ k < w.heap.size) ((w.setCell ⟨gb, 1, none⟩ (.bool true)).setCell ⟨g, 5, none⟩ (.int .i64 (x.received + 1))) w2 k ∧ k < w2.heap.size) ((((w2.setCell ⟨gb, 4, none⟩ (.int .i64 0)).setCell ⟨gb, 5, none⟩ (.int .i64 0)).setCell ⟨gb, 6, none⟩ (.int .i64 0)).setCell ⟨gb, 2, none⟩ (.bool false)) w4 gb := fun hk => hk.elim (fun h => hT h.1) (fun h => by have := h.1; have := f4.size; simp [World.setCell] at *; omega)
 have h8 := h7.bound.move (fun k hk => y4.block k hk.2 (fun e => by subst e; exact hT4 hk.1))
 have g5 := blk_set g4 3 (.int .i64 a)
 have w1s := f4.size
 have w3s := f7.size
 simp [World.setCell] at w1s w3s
 have z1 : Frm (fun k => S k ∨ k = gb) w _ := (((Frm.refl _ _).setCell (p := ⟨gb, 1, none⟩) (fun _ => .inr rfl) (.bool true)).setCell (p := ⟨g, 5, none⟩) (fun _ => .inl h0.own.1) (.int .i64 (x.received + 1))).trans f4 (fun k _ hq => .inl (h0.subP k hq).1.1)
 have z2 := ((z1.trans y2 (fun k _ e => .inr e)).trans f7 (fun k hk hq => hq.1.elim (fun h => .inl h.1) (fun h => by have := h.1; simp [World.setCell] at this; omega))).trans y4 (fun k _ e => .inr e)
 rw [show ({ size := x.size, buf := L, senders := x.senders, receivers := x.receivers, closed := x.closed, sent := x.sent, received := x.received + 1 } : PipeM) = { x with buf := L, senders := [], received := x.received + 1 } by rw [HX.out]]
 refine ⟨rfl, h8.mono (fun k hk => ?_), g5, z2⟩
 have hk2 := hk.2
 rcases hk.1 with hk | hk
 ·rcases hk.1 with h | h
  ·exact .inl h.1
  ·refine .inr ⟨?_, ?_⟩
   ·have := h.1; simp [World.setCell] at this; exact this
   ·have := h.2; simp [World.setCell]; omega
 ·refine .inr ⟨?_, ?_⟩
  ·have := hk.1; simp [World.setCell] at this; omega
  ·have := hk.2; simp [World.setCell]; omega
set_option maxRecDepth 100000 in
set_option maxHeartbeats 400000 in
theorem recv1_woke {a : Int} {L : List Int} {m : Wtr} {l : List Wtr} (h : PipeAt w S g x) (hb : x.buf = a :: L) (hs : x.senders = m :: l) (hl : l.length < 1000000) (hz : L.length < x.size) (hn : Cnt x) (hp : w.heap[pb]? = some (.cells #[.pointer (some ⟨g, 0, none⟩)] 176 (0, 0)))
  (hg : w.heap[gb]? = some (.cells #[.bool true, .bool false, .bool false, .int .i64 0, .int .i64 0, .int .i64 0, .int .i64 0] 227 (0, 0))) (pS : ¬ S pb) (gS : ¬ S gb) (ne : pb ≠ gb) :
  Calls Tryz.prog 212 #[.func (.func 213) #[] #[.pointer (some ⟨pb, 0, none⟩), .pointer (some ⟨gb, 0, none⟩)], .pointer (some ⟨gb, 0, none⟩), .pointer (some ⟨pb, 0, none⟩)] w
   fun e w' => e = .returned (.tuple #[]) ∧ PipeAt w' (New S w w') g { x with buf := L ++ [m.value], senders := l, sent := x.sent + 1, received := x.received + 1 } ∧
    w'.heap[gb]? = some (.cells #[.bool true, .bool true, .bool true, .int .i64 a, .int .i64 m.g, .int .i64 m.case_, .int .i64 m.value] 227 (0, 0)) ∧ Frm (fun k => S k ∨ k = gb) w w' := by
 obtain ⟨b1, b2, b3, b4⟩ := hn
 obtain ⟨mg, mc, mv⟩ := m
 dsimp only
 obtain ⟨rgb, sp, rp, R, P, Q, h0⟩ := h.bound
 obtain ⟨c0, c1, c2, c3, c4, c5, cf⟩ := pipe_cells h0.row
 obtain ⟨p0, pf⟩ := box1 hp
 obtain ⟨r0, r1, r2, r3, r4, r5, r6, rf⟩ := box7 hg
 have gg : g ≠ gb := fun e => gS (by rw [← e]; exact h0.own.1)
 have gg' : gb ≠ g := fun e => gg e.symm
 have gp : g ≠ pb := fun e => pS (by rw [← e]; exact h0.own.1)
 have gp' : pb ≠ g := fun e => gp e.symm
 have ne' : gb ≠ pb := fun e => ne e.symm
 have l0 := lt_of_block h0.row
 have l1 := lt_of_block hp
 have l2 := lt_of_block hg
 have HX := Lib.hid hs
 have HB := Lib.hid hb
 clear hs hb
 go_enter Tryz.func212, Tryz.ntmps212
 go_wp2_with fail
 have e0 : Frm (fun k => k = gb) w w := Frm.refl _ _
 have y0 := e0.setCell (p := ⟨gb, 1, none⟩) (fun _ => rfl) (.bool true)
 have h1 := h0.move (fun k hk => y0.block k hk.2 (fun e => gS (by rw [← e]; exact hk.1)))
 have h2 := h1.received_ (x.received + 1)
 have h3 := h2.snd
 dsimp only at h3
 rw [HX.out] at h3
 refine (pew_take h3 hl).mono ?_
 rintro e w2 ⟨rfl, h4, f4⟩
 have h5 := h2.snd_ h4 f4
 have g1 := blk_far (blk_set hg 1 (.bool true)) (p := ⟨g, 5, none⟩) gg' (.int .i64 (x.received + 1))
 have g2 := f4.blk g1 (fun hq => gS (h0.subP gb hq).1.1)
 have q2 := f4.blk (blk_far (blk_far hp (p := ⟨gb, 1, none⟩) ne (.bool true)) (p := ⟨g, 5, none⟩) gp' (.int .i64 (x.received + 1))) (fun hq => pS (h0.subP pb hq).1.1)
 dsimp [Array.setIfInBounds] at g2
 obtain ⟨s0, s1, s2, s3, s4, s5, s6, sf⟩ := box7 g2
 obtain ⟨u0, uf⟩ := box1 q2
 obtain ⟨d0, d1, d2, d3, d4, d5, df⟩ := pipe_cells h5.row
 unfold Wtr.agg
 dsimp only at d3 d4 d5 ⊢
 have hT : ¬ New (fun k => S k ∧ k < w.heap.size) ((w.setCell ⟨gb, 1, none⟩ (.bool true)).setCell ⟨g, 5, none⟩ (.int .i64 (x.received + 1))) w2 gb := fun hk => hk.elim (fun h => gS h.1) (fun h => by have := h.1; simp [World.setCell] at this; omega)
 have hTp : ¬ New (fun k => S k ∧ k < w.heap.size) ((w.setCell ⟨gb, 1, none⟩ (.bool true)).setCell ⟨g, 5, none⟩ (.int .i64 (x.received + 1))) w2 pb := fun hk => hk.elim (fun h => pS h.1) (fun h => by have := h.1; simp [World.setCell] at this; omega)
 have e2 : Frm (fun k => k = gb) w2 w2 := Frm.refl _ _
 have y2 := (((e2.setCell (p := ⟨gb, 4, none⟩) (fun _ => rfl) (.int .i64 mg)).setCell (p := ⟨gb, 5, none⟩) (fun _ => rfl) (.int .i64 mc)).setCell (p := ⟨gb, 6, none⟩) (fun _ => rfl) (.int .i64 mv)).setCell (p := ⟨gb, 2, none⟩) (fun _ => rfl) (.bool true)
 have h6 := h5.bound.move (fun k hk => y2.block k hk.2 (fun e => by subst e; exact hT hk.1))
 have g3 := blk_far (blk_set (blk_set (blk_set (blk_set g2 4 (.int .i64 mg)) 5 (.int .i64 mc)) 6 (.int .i64 mv)) 2 (.bool true)) (p := ⟨g, 4, none⟩) gg' (.int .i64 (x.sent + 1))
 have q3 := blk_far (y2.blk q2 ne) (p := ⟨g, 4, none⟩) gp' (.int .i64 (x.sent + 1))
 have h6a := h6.sent_ (x.sent + 1)
 go_wp2_with fail
 refine (recv2_woke (y := ⟨true, true, true, 0, ⟨mg, mc, mv⟩⟩) ⟨_, _, _, _, _, _, h6a⟩ HB.out hz q3 g3 (fun h => hTp h.1) (fun h => hT h.1) rfl mv).mono ?_
 rintro e w4 ⟨rfl, h7, f7⟩
 have g4 := f7.blk g3 (fun h => hT h.1)
 dsimp [Array.setIfInBounds] at g4
 obtain ⟨t0, t1, t2, t3, t4, t5, t6, tf⟩ := box7 g4
 go_wp2_with fail
 go_end0
 have e4 : Frm (fun k => k = gb) w4 w4 := Frm.refl _ _
 have y4 := e4.setCell (p := ⟨gb, 3, none⟩) (fun _ => rfl) (.int .i64 a)
 have hT4 : ¬ New (fun k => New (fun k => S k ∧ k < w.heap.size) ((w.setCell ⟨gb, 1, none⟩ (.bool true)).setCell ⟨g, 5, none⟩ (.int .i64 (x.received + 1))) w2 k ∧ k < w2.heap.size) (((((w2.setCell ⟨gb, 4, none⟩ (.int .i64 mg)).setCell ⟨gb, 5, none⟩ (.int .i64 mc)).setCell ⟨gb, 6, none⟩ (.int .i64 mv)).setCell ⟨gb, 2, none⟩ (.bool true)).setCell ⟨g, 4, none⟩ (.int .i64 (x.sent + 1))) w4 gb := fun hk => hk.elim (fun h => hT h.1) (fun h => by have := h.1; have := f4.size; simp [World.setCell] at *; omega)
 have h8 := h7.bound.move (fun k hk => y4.block k hk.2 (fun e => by subst e; exact hT4 hk.1))
 have g5 := blk_set g4 3 (.int .i64 a)
 have w1s := f4.size
 have w3s := f7.size
 simp [World.setCell] at w1s w3s
 have z1 : Frm (fun k => S k ∨ k = gb) w _ := (((Frm.refl _ _).setCell (p := ⟨gb, 1, none⟩) (fun _ => .inr rfl) (.bool true)).setCell (p := ⟨g, 5, none⟩) (fun _ => .inl h0.own.1) (.int .i64 (x.received + 1))).trans f4 (fun k _ hq => .inl (h0.subP k hq).1.1)
 have z2 := (((z1.trans y2 (fun k _ e => .inr e)).setCell (p := ⟨g, 4, none⟩) (fun _ => .inl h0.own.1) (.int .i64 (x.sent + 1))).trans f7 (fun k hk hq => hq.1.elim (fun h => .inl h.1) (fun h => by have := h.1; simp [World.setCell] at this; omega))).trans y4 (fun k _ e => .inr e)
 refine ⟨rfl, h8.mono (fun k hk => ?_), g5, z2⟩
 have hk2 := hk.2
 rcases hk.1 with hk | hk
 ·rcases hk.1 with h | h
  ·exact .inl h.1
  ·refine .inr ⟨?_, ?_⟩
   ·have := h.1; simp [World.setCell] at this; exact this
   ·have := h.2; simp [World.setCell]; omega
 ·refine .inr ⟨?_, ?_⟩
  ·have := hk.1; simp [World.setCell] at this; omega
  ·have := hk.2; simp [World.setCell]; omega
set_option maxRecDepth 100000 in
set_option maxHeartbeats 400000 in
theorem recv1_direct {m : Wtr} {l : List Wtr} (h : PipeAt w S g x) (hs : x.senders = m :: l) (hl : l.length < 1000000) (hn : Cnt x) (hp : w.heap[pb]? = some (.cells #[.pointer (some ⟨g, 0, none⟩)] 176 (0, 0)))
  (hg : w.heap[gb]? = some (.cells #[.bool true, .bool false, .bool false, .int .i64 0, .int .i64 0, .int .i64 0, .int .i64 0] 227 (0, 0))) (pS : ¬ S pb) (gS : ¬ S gb) (ne : pb ≠ gb) :
  Calls Tryz.prog 212 #[.func (.func 215) #[] #[], .pointer (some ⟨gb, 0, none⟩), .pointer (some ⟨pb, 0, none⟩)] w
   fun e w' => e = .returned (.tuple #[]) ∧ PipeAt w' (New S w w') g { x with senders := l, sent := x.sent + 1, received := x.received + 1 } ∧
    w'.heap[gb]? = some (.cells #[.bool true, .bool true, .bool true, .int .i64 m.value, .int .i64 m.g, .int .i64 m.case_, .int .i64 m.value] 227 (0, 0)) ∧ Frm (fun k => S k ∨ k = gb) w w' := by
 obtain ⟨b1, b2, b3, b4⟩ := hn
 obtain ⟨mg, mc, mv⟩ := m
 dsimp only
 obtain ⟨rgb, sp, rp, R, P, Q, h0⟩ := h.bound
 obtain ⟨c0, c1, c2, c3, c4, c5, cf⟩ := pipe_cells h0.row
 obtain ⟨p0, pf⟩ := box1 hp
 obtain ⟨r0, r1, r2, r3, r4, r5, r6, rf⟩ := box7 hg
 have gg : g ≠ gb := fun e => gS (by rw [← e]; exact h0.own.1)
 have gg' : gb ≠ g := fun e => gg e.symm
 have gp : g ≠ pb := fun e => pS (by rw [← e]; exact h0.own.1)
 have gp' : pb ≠ g := fun e => gp e.symm
 have ne' : gb ≠ pb := fun e => ne e.symm
 have l0 := lt_of_block h0.row
 have l1 := lt_of_block hp
 have l2 := lt_of_block hg
 have HX := Lib.hid hs
 clear hs
 go_enter Tryz.func212, Tryz.ntmps212
 go_wp2_with fail
 have e0 : Frm (fun k => k = gb) w w := Frm.refl _ _
 have y0 := e0.setCell (p := ⟨gb, 1, none⟩) (fun _ => rfl) (.bool true)
 have h1 := h0.move (fun k hk => y0.block k hk.2 (fun e => gS (by rw [← e]; exact hk.1)))
 have h2 := h1.received_ (x.received + 1)
 have h3 := h2.snd
 dsimp only at h3
 rw [HX.out] at h3
 refine (pew_take h3 hl).mono ?_
 rintro e w2 ⟨rfl, h4, f4⟩
 have h5 := h2.snd_ h4 f4
 have g1 := blk_far (blk_set hg 1 (.bool true)) (p := ⟨g, 5, none⟩) gg' (.int .i64 (x.received + 1))
 have g2 := f4.blk g1 (fun hq => gS (h0.subP gb hq).1.1)
 have q2 := f4.blk (blk_far (blk_far hp (p := ⟨gb, 1, none⟩) ne (.bool true)) (p := ⟨g, 5, none⟩) gp' (.int .i64 (x.received + 1))) (fun hq => pS (h0.subP pb hq).1.1)
 dsimp [Array.setIfInBounds] at g2
 obtain ⟨s0, s1, s2, s3, s4, s5, s6, sf⟩ := box7 g2
 obtain ⟨u0, uf⟩ := box1 q2
 obtain ⟨d0, d1, d2, d3, d4, d5, df⟩ := pipe_cells h5.row
 unfold Wtr.agg
 dsimp only at d3 d4 d5 ⊢
 have hT : ¬ New (fun k => S k ∧ k < w.heap.size) ((w.setCell ⟨gb, 1, none⟩ (.bool true)).setCell ⟨g, 5, none⟩ (.int .i64 (x.received + 1))) w2 gb := fun hk => hk.elim (fun h => gS h.1) (fun h => by have := h.1; simp [World.setCell] at this; omega)
 have hTp : ¬ New (fun k => S k ∧ k < w.heap.size) ((w.setCell ⟨gb, 1, none⟩ (.bool true)).setCell ⟨g, 5, none⟩ (.int .i64 (x.received + 1))) w2 pb := fun hk => hk.elim (fun h => pS h.1) (fun h => by have := h.1; simp [World.setCell] at this; omega)
 have e2 : Frm (fun k => k = gb) w2 w2 := Frm.refl _ _
 have y2 := (((e2.setCell (p := ⟨gb, 4, none⟩) (fun _ => rfl) (.int .i64 mg)).setCell (p := ⟨gb, 5, none⟩) (fun _ => rfl) (.int .i64 mc)).setCell (p := ⟨gb, 6, none⟩) (fun _ => rfl) (.int .i64 mv)).setCell (p := ⟨gb, 2, none⟩) (fun _ => rfl) (.bool true)
 have h6 := h5.bound.move (fun k hk => y2.block k hk.2 (fun e => by subst e; exact hT hk.1))
 have g3 := blk_far (blk_set (blk_set (blk_set (blk_set g2 4 (.int .i64 mg)) 5 (.int .i64 mc)) 6 (.int .i64 mv)) 2 (.bool true)) (p := ⟨g, 4, none⟩) gg' (.int .i64 (x.sent + 1))
 have q3 := blk_far (y2.blk q2 ne) (p := ⟨g, 4, none⟩) gp' (.int .i64 (x.sent + 1))
 have h6a := h6.sent_ (x.sent + 1)
 go_wp2_with fail
 refine (recv3 mv _).mono ?_
 rintro e w4 ⟨rfl, rfl⟩
 have g4 := g3
 dsimp [Array.setIfInBounds] at g4
 go_wp2_with fail
 go_end0
 have y6 := (e2.setCell (p := ⟨gb, 4, none⟩) (fun _ => rfl) (.int .i64 mg))
 have h7 : PipeAt _ _ g { x with senders := l, sent := x.sent + 1, received := x.received + 1 } := ⟨_, _, _, _, _, _, h6a⟩
 obtain ⟨w5, hw5⟩ : ∃ w5, (((((w2.setCell ⟨gb, 4, none⟩ (.int .i64 mg)).setCell ⟨gb, 5, none⟩ (.int .i64 mc)).setCell ⟨gb, 6, none⟩ (.int .i64 mv)).setCell ⟨gb, 2, none⟩ (.bool true)).setCell ⟨g, 4, none⟩ (.int .i64 (x.sent + 1))) = w5 := ⟨_, rfl⟩
 have s5 : w2.heap.size = w5.heap.size := by rw [← hw5]; simp [World.setCell]
 have w1s := f4.size
 simp [World.setCell] at w1s
 have z1 : Frm (fun k => S k ∨ k = gb) w _ := (((Frm.refl _ _).setCell (p := ⟨gb, 1, none⟩) (fun _ => .inr rfl) (.bool true)).setCell (p := ⟨g, 5, none⟩) (fun _ => .inl h0.own.1) (.int .i64 (x.received + 1))).trans f4 (fun k _ hq => .inl (h0.subP k hq).1.1)
 have z2 := (z1.trans y2 (fun k _ e => .inr e)).setCell (p := ⟨g, 4, none⟩) (fun _ => .inl h0.own.1) (.int .i64 (x.sent + 1))
 rw [hw5] at g4 h7 z2 ⊢
 have e4 : Frm (fun k => k = gb) w5 w5 := Frm.refl _ _
 have y4 := e4.setCell (p := ⟨gb, 3, none⟩) (fun _ => rfl) (.int .i64 mv)
 have h8 := h7.bound.move (fun k hk => y4.block k hk.2 (fun e => by subst e; exact hT hk.1.1))
 have g5 := blk_set g4 3 (.int .i64 mv)
 have z3 := z2.trans y4 (fun k _ e => .inr e)
 refine ⟨rfl, h8.mono (fun k hk => ?_), g5, z3⟩
 have hk2 := hk.2
 rcases hk.1.1 with h | h
 ·exact .inl h.1
 ·refine .inr ⟨?_, ?_⟩
  ·have := h.1; simp [World.setCell] at this; exact this
  ·have := h.2; simp [World.setCell]; omega
end
end Go.Proofs.YtchkaaeoffmjnaaGreatDoor
