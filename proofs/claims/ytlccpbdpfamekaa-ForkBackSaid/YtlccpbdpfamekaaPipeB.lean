/- Layer 9, pipe: Drop, Close, Send. -/
import Derived.Test.YtlccpbdpfamekaaPipe
namespace Go.Proofs.Ytlccpbdpfamekaa
set_option linter.unusedVariables false
set_option linter.unusedSimpArgs false
open Go.RowKit

/-- A method that changes a pipe: it is y then. -/
def PipePost (S : Nat → Prop) (g : Nat) (w : World) (r : Value) (y : PipeM) : Ending → World → Prop :=
  fun e w' => e = .returned r ∧ PipeAt w' (New S w w') g y ∧ Frm S w w'

section
variable {w : World} {S : Nat → Prop} {g : Nat} {x : PipeM}

theorem PipeOf.sent_ {rb sp rp : Nat} {R P Q : Nat → Prop} (h : PipeOf w S g x rb sp rp R P Q) (v : Int) : PipeOf (w.setCell ⟨g, 4, none⟩ (.int .i64 v)) S g { x with sent := v } rb sp rp R P Q :=
  ⟨blk_set h.row 4 (.int .i64 v), h.own, h.ring.move (fun k hk => Below.heap_setCell _ _ _ _ (h.subR k hk).2), h.snd.move (fun k hk => Below.heap_setCell _ _ _ _ (h.subP k hk).2), h.rcv.move (fun k hk => Below.heap_setCell _ _ _ _ (h.subQ k hk).2), h.subR, h.subP, h.subQ, h.rp_, h.rq_, h.pq_⟩

theorem PipeOf.received_ {rb sp rp : Nat} {R P Q : Nat → Prop} (h : PipeOf w S g x rb sp rp R P Q) (v : Int) : PipeOf (w.setCell ⟨g, 5, none⟩ (.int .i64 v)) S g { x with received := v } rb sp rp R P Q :=
  ⟨blk_set h.row 5 (.int .i64 v), h.own, h.ring.move (fun k hk => Below.heap_setCell _ _ _ _ (h.subR k hk).2), h.snd.move (fun k hk => Below.heap_setCell _ _ _ _ (h.subP k hk).2), h.rcv.move (fun k hk => Below.heap_setCell _ _ _ _ (h.subQ k hk).2), h.subR, h.subP, h.subQ, h.rp_, h.rq_, h.pq_⟩

theorem PipeOf.closed_ {rb sp rp : Nat} {R P Q : Nat → Prop} (h : PipeOf w S g x rb sp rp R P Q) (v : Bool) : PipeOf (w.setCell ⟨g, 3, none⟩ (.bool v)) S g { x with closed := v } rb sp rp R P Q :=
  ⟨blk_set h.row 3 (.bool v), h.own, h.ring.move (fun k hk => Below.heap_setCell _ _ _ _ (h.subR k hk).2), h.snd.move (fun k hk => Below.heap_setCell _ _ _ _ (h.subP k hk).2), h.rcv.move (fun k hk => Below.heap_setCell _ _ _ _ (h.subQ k hk).2), h.subR, h.subP, h.subQ, h.rp_, h.rq_, h.pq_⟩

/-- A pipe whose senders' pew has changed. -/
theorem PipeOf.snd_ {w w' : World} {rb sp rp : Nat} {R P Q : Nat → Prop} (h : PipeOf w S g x rb sp rp R P Q) {L : List Wtr} (h' : PewAt w' (New P w w') sp L) (f : Frm P w w') :
    PipeOf w' (New S w w') g { x with senders := L } rb sp rp (fun k => R k ∧ k < w.heap.size) (New P w w') (fun k => Q k ∧ k < w.heap.size) := by
  have hg := lt_of_block h.row
  refine ⟨f.blk h.row (fun hp => (h.subP g hp).2 rfl), .inl h.own, h.ring.bound.move (fun k hk => f.block k hk.2 (fun hp => h.rp_ k hk.1 hp)), h', h.rcv.bound.move (fun k hk => f.block k hk.2 (fun hp => h.pq_ k hp hk.1)), fun k hk => ⟨.inl (h.subR k hk.1).1, (h.subR k hk.1).2⟩, fun k hk => ?_, fun k hk => ⟨.inl (h.subQ k hk.1).1, (h.subQ k hk.1).2⟩, fun k hk hp => ?_, fun k hk hq => h.rq_ k hk.1 hq.1, fun k hp hq => ?_⟩
  · rcases hk with hk | hk
    · exact ⟨.inl (h.subP k hk).1, (h.subP k hk).2⟩
    · exact ⟨.inr hk, by omega⟩
  · rcases hp with hp | hp
    · exact h.rp_ k hk.1 hp
    · have := hk.2
      omega
  · rcases hp with hp | hp
    · exact h.pq_ k hp hq.1
    · have := hq.2
      omega

theorem PipeOf.rcv_ {w w' : World} {rb sp rp : Nat} {R P Q : Nat → Prop} (h : PipeOf w S g x rb sp rp R P Q) {L : List Wtr} (h' : PewAt w' (New Q w w') rp L) (f : Frm Q w w') :
    PipeOf w' (New S w w') g { x with receivers := L } rb sp rp (fun k => R k ∧ k < w.heap.size) (fun k => P k ∧ k < w.heap.size) (New Q w w') := by
  have hg := lt_of_block h.row
  refine ⟨f.blk h.row (fun hp => (h.subQ g hp).2 rfl), .inl h.own, h.ring.bound.move (fun k hk => f.block k hk.2 (fun hp => h.rq_ k hk.1 hp)), h.snd.bound.move (fun k hk => f.block k hk.2 (fun hp => h.pq_ k hk.1 hp)), h', fun k hk => ⟨.inl (h.subR k hk.1).1, (h.subR k hk.1).2⟩, fun k hk => ⟨.inl (h.subP k hk.1).1, (h.subP k hk.1).2⟩, fun k hk => ?_, fun k hk hp => h.rp_ k hk.1 hp.1, fun k hk hq => ?_, fun k hp hq => ?_⟩
  · rcases hk with hk | hk
    · exact ⟨.inl (h.subQ k hk).1, (h.subQ k hk).2⟩
    · exact ⟨.inr hk, by omega⟩
  · rcases hq with hq | hq
    · exact h.rq_ k hk.1 hq
    · have := hk.2
      omega
  · rcases hq with hq | hq
    · exact h.pq_ k hp.1 hq
    · have := hp.2
      omega

theorem PipeOf.ring_ {w w' : World} {rb sp rp : Nat} {R P Q : Nat → Prop} (h : PipeOf w S g x rb sp rp R P Q) {L : List Int} (h' : RingAt w' R rb x.size L) (f : Frm R w w') :
    PipeOf w' S g { x with buf := L } rb sp rp R (fun k => P k ∧ k < w.heap.size) (fun k => Q k ∧ k < w.heap.size) :=
  ⟨f.blk h.row (fun hp => (h.subR g hp).2 rfl), h.own, h', h.snd.bound.move (fun k hk => f.block k hk.2 (fun hp => h.rp_ k hp hk.1)), h.rcv.bound.move (fun k hk => f.block k hk.2 (fun hp => h.rq_ k hp hk.1)), h.subR, fun k hk => h.subP k hk.1, fun k hk => h.subQ k hk.1,
    fun k hk hp => h.rp_ k hk hp.1, fun k hk hp => h.rq_ k hk hp.1, fun k hk hp => h.pq_ k hk.1 hp.1⟩

theorem PipeOf.later {w w' : World} {rb sp rp : Nat} {R P Q : Nat → Prop} (h : PipeOf w S g x rb sp rp R P Q) (f : Frm Nil w w') : PipeOf w' S g x rb sp rp R P Q :=
  ⟨f.blk h.row id, h.own, h.ring.move' f, h.snd.move' f, h.rcv.move' f, h.subR, h.subP, h.subQ, h.rp_, h.rq_, h.pq_⟩

theorem New.trans {S : Nat → Prop} {a b c : World} (h1 : a.heap.size ≤ b.heap.size) (h2 : b.heap.size ≤ c.heap.size) : ∀ k, New (New S a b) b c k → New S a c k := fun k h => by
  rcases h with (h | h) | h
  · exact .inl h
  · exact .inr ⟨h.1, by omega⟩
  · exact .inr ⟨by omega, h.2⟩

def dropM (x : PipeM) (g : Int) : PipeM := { x with senders := without g x.senders, receivers := without g x.receivers }

set_option maxRecDepth 100000 in
set_option maxHeartbeats 400000 in
theorem pipe_drop (h : PipeAt w S g x) (hs : Fine x.senders) (hr : Fine x.receivers) (i : Int) : Calls Try.prog 27 #[.pointer (some ⟨g, 0, none⟩), .int .i64 i] w
    (PipePost S g w (.int .i64 (((x.senders.length : Int) - (without i x.senders).length) + ((x.receivers.length : Int) - (without i x.receivers).length))) (dropM x i)) := by
  obtain ⟨rb, sp, rp, R, P, Q, h⟩ := h
  have b1 := hs.1
  have b2 := hr.1
  have b3 := without_le i x.senders
  have b4 := without_le i x.receivers
  go_enter Try.func27, Try.ntmps27
  go_wp2_with fail
  refine (pipe_pew h true).mono ?_
  rintro e w' ⟨rfl, rfl⟩
  simp only [if_true]
  go_wp2_with fail
  refine (pew_drop h.snd hs i).mono ?_
  rintro e w1 ⟨rfl, h1, f1⟩
  have k1 := h.snd_ h1 f1
  go_wp2_with fail
  refine (pipe_pew k1 false).mono ?_
  rintro e w' ⟨rfl, rfl⟩
  simp only [Bool.false_eq_true, if_false]
  go_wp2_with fail
  refine (pew_drop k1.rcv hr i).mono ?_
  rintro e w2 ⟨rfl, h2, f2⟩
  have k2 := k1.rcv_ h2 f2
  go_wp2_with fail
  go_ret
  exact ⟨rfl, ⟨_, _, _, _, _, _, k2⟩ |> fun (hh : PipeAt _ _ _ _) => hh.mono (New.trans f1.size f2.size), (f1.mono (fun k _ hk => (h.subP k hk).1)).trans f2 (fun k hk hq => (h.subQ k hq.1).1)⟩

set_option maxHeartbeats 400000 in
theorem pipe_drop_nil (i : Int) (w : World) : Calls Try.prog 27 #[.pointer none, .int .i64 i] w fun e w' => e = .returned (.int .i64 0) ∧ Frm Nil w w' := by
  go_enter Try.func27, Try.ntmps27
  go_wp2_with fail
  refine (pipe_pew_nil true w).mono ?_
  rintro e w' ⟨rfl, rfl⟩
  go_wp2_with fail
  refine (pew_drop_nil i w).mono ?_
  rintro e w1 ⟨rfl, f1⟩
  go_wp2_with fail
  refine (pipe_pew_nil false w1).mono ?_
  rintro e w' ⟨rfl, rfl⟩
  go_wp2_with fail
  refine (pew_drop_nil i w1).mono ?_
  rintro e w2 ⟨rfl, f2⟩
  go_wp2_with fail
  go_ret
  exact ⟨rfl, f1.then f2⟩
end

end Go.Proofs.Ytlccpbdpfamekaa
