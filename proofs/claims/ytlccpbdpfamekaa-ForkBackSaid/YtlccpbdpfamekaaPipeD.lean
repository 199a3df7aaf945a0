/- Layer 9, pipe: Send whole, and calls of a nil pipe. -/
import Derived.Test.YtlccpbdpfamekaaPipeC
namespace Go.Proofs.Ytlccpbdpfamekaa
set_option linter.unusedVariables false
set_option linter.unusedSimpArgs false
open Go.RowKit

section
variable {w : World} {S : Nat → Prop} {g : Nat} {x : PipeM}

theorem PipePost.of_nil (h : PipeAt w S g x) {r : Value} {e : Ending} {w' : World} (q : e = .returned r ∧ Frm Nil w w') : PipePost S g w r x e w' :=
  ⟨q.1, (h.move' q.2).mono (fun k hk => .inl hk), q.2.nil⟩

theorem pipe_send (h : PipeAt w S g x) (hl : x.receivers.length ≤ 1000000) (hn : Cnt x) (v : Int) : Calls Try.prog 23 #[.pointer (some ⟨g, 0, none⟩), .int .i64 v] w
    (PipePost S g w (.tuple #[(sendF x v).1.1.agg, .int .i64 (sendF x v).1.2]) (sendF x v).2) := by
  by_cases hc : x.closed = true
  · rw [show sendF x v = ((gzero, 90), x) by unfold sendF; rw [if_pos hc]]
    exact (send_closed h hc v).mono (fun e w' q => PipePost.of_nil h q)
  · have hc' : x.closed = false := by simpa using hc
    rcases hr : x.receivers with _ | ⟨m, l⟩
    · by_cases hz : x.buf.length < x.size
      · rw [show sendF x v = ((⟨true, false, false, 0, wzero⟩, 0), { x with buf := x.buf ++ [v], sent := x.sent + 1 }) by unfold sendF; rw [if_neg hc, hr]; simp [hz]]
        exact send_push h hc' hr hz hn v
      · rw [show sendF x v = ((gzero, 0), x) by unfold sendF; rw [if_neg hc, hr]; simp [hz]]
        exact (send_no h hc' (by unfold readyF; simp [hc', hr, hz]) v).mono (fun e w' q => PipePost.of_nil h q)
    · rw [show sendF x v = ((⟨true, false, true, 0, m⟩, 0), { x with receivers := l, sent := x.sent + 1, received := x.received + 1 }) by unfold sendF; rw [if_neg hc, hr]]
      exact send_woke h hc' hr (by rw [hr] at hl; simp at hl; omega) hn v
end

set_option maxRecDepth 100000 in
set_option maxHeartbeats 400000 in
theorem pipe_send_nil (v : Int) (w : World) : Calls Try.prog 23 #[.pointer none, .int .i64 v] w fun e w' => e = .returned (.tuple #[gzero.agg, .int .i64 0]) ∧ Frm Nil w w' := by
  unfold gzero GotM.agg wzero
  dsimp only
  go_enter Try.func23, Try.ntmps23
  go_wp2_with fail
  refine (pipe_closed_nil _).mono ?_
  rintro e w0 ⟨rfl, f0⟩
  go_wp2_with fail
  refine (pipe_ready_nil true w0).mono ?_
  rintro e w1 ⟨rfl, f1'⟩
  have f1 := f0.then f1'
  have fw := Frm.then (Frm.alloc (Frm.refl Nil w) _) f1
  have rb := box_at f1 id
  have rl := lt_of_block rb
  obtain ⟨r, hr⟩ : ∃ r, w.heap.size = r := ⟨_, rfl⟩
  rw [hr] at rb rl ⊢
  obtain ⟨r0, r1, r2, r3, r4, r5, r6, rf⟩ := box7 rb
  have HR := Lib.hid hr
  clear hr
  go_wp2_with fail
  refine bodyPost_ret (v := .tuple #[.agg #[.bool false, .bool false, .bool false, .int .i64 0, .int .i64 0, .int .i64 0, .int .i64 0], .int .i64 0]) (by simp [results, Try.results23, go_sem, r0, r1, r2, r3, r4, r5, r6, rl]) rfl ⟨rfl, ?_⟩
  have hn : ∀ p : Addr, p.block = r → p.block < w.heap.size → Nil p.block := fun p hp h => by have := HR.out; omega
  exact (((((((fw).setCell (p := ⟨r, 0, none⟩) (hn _ rfl) (.bool false)).setCell (p := ⟨r, 1, none⟩) (hn _ rfl) (.bool false)).setCell (p := ⟨r, 2, none⟩) (hn _ rfl) (.bool false)).setCell (p := ⟨r, 3, none⟩) (hn _ rfl) (.int .i64 0)).setCell (p := ⟨r, 4, none⟩) (hn _ rfl) (.int .i64 0)).setCell (p := ⟨r, 5, none⟩) (hn _ rfl) (.int .i64 0)).setCell (p := ⟨r, 6, none⟩) (hn _ rfl) (.int .i64 0)

theorem pipe_close_nil (w : World) : Calls Try.prog 26 #[.pointer none] w fun e w' => e = .returned (.tuple #[.slice none 0 0, .slice none 0 0, .int .i64 6]) ∧ Frm Nil w w' := by
  go_enter Try.func26, Try.ntmps26
  go_wp2_with fail
  go_ret3
  exact ⟨rfl, Frm.refl _ _⟩

end Go.Proofs.Ytlccpbdpfamekaa
