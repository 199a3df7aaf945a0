/- Layer 9, pipe: Send. -/
import Derived.Test.YtlccpbdpfamekaaPipeB
import Derived.Deep.RegionWith
namespace Go.Proofs.Ytlccpbdpfamekaa
set_option linter.unusedVariables false
set_option linter.unusedSimpArgs false
open Go.RowKit

structure GotM where
  ready : Bool
  ok : Bool
  woke : Bool
  value : Int
  mate : Wtr
  deriving DecidableEq

def GotM.cells (x : GotM) : List Value := [.bool x.ready, .bool x.ok, .bool x.woke, .int .i64 x.value, .int .i64 x.mate.g, .int .i64 x.mate.case_, .int .i64 x.mate.value]
def GotM.agg (x : GotM) : Value := .agg #[.bool x.ready, .bool x.ok, .bool x.woke, .int .i64 x.value, .int .i64 x.mate.g, .int .i64 x.mate.case_, .int .i64 x.mate.value]
def gzero : GotM := ⟨false, false, false, 0, wzero⟩

def sendF (x : PipeM) (v : Int) : (GotM × Int) × PipeM :=
  if x.closed then ((gzero, 90), x)
  else match x.receivers with
    | m :: l => ((⟨true, false, true, 0, m⟩, 0), { x with receivers := l, sent := x.sent + 1, received := x.received + 1 })
    | [] => if x.buf.length < x.size then ((⟨true, false, false, 0, wzero⟩, 0), { x with buf := x.buf ++ [v], sent := x.sent + 1 }) else ((gzero, 0), x)

/-- Counts that don't run over. -/
def Cnt (x : PipeM) : Prop := 0 ≤ x.sent ∧ x.sent ≤ 1000000000 ∧ 0 ≤ x.received ∧ x.received ≤ 1000000000

theorem box7 {w : World} {g : Nat} {a b c d e f h : Value} {t : Nat} (k : w.heap[g]? = some (.cells #[a, b, c, d, e, f, h] t (0, 0))) :
    w.cell? ⟨g, 0, none⟩ = some a ∧ w.cell? ⟨g, 1, none⟩ = some b ∧ w.cell? ⟨g, 2, none⟩ = some c ∧ w.cell? ⟨g, 3, none⟩ = some d ∧ w.cell? ⟨g, 4, none⟩ = some e ∧ w.cell? ⟨g, 5, none⟩ = some f ∧ w.cell? ⟨g, 6, none⟩ = some h ∧ (∀ i, w.frozen? ⟨g, i, none⟩ = false) :=
  ⟨row_cell k 0 rfl, row_cell k 1 rfl, row_cell k 2 rfl, row_cell k 3 rfl, row_cell k 4 rfl, row_cell k 5 rfl, row_cell k 6 rfl, row_free k⟩

section
variable {w : World} {S : Nat → Prop} {g : Nat} {x : PipeM}

set_option maxRecDepth 100000 in
set_option maxHeartbeats 400000 in
theorem send_closed (h : PipeAt w S g x) (hc : x.closed = true) (v : Int) : Calls Try.prog 23 #[.pointer (some ⟨g, 0, none⟩), .int .i64 v] w fun e w' => e = .returned (.tuple #[gzero.agg, .int .i64 90]) ∧ Frm Nil w w' := by
  have k1 := fun (w' : World) (f : Frm Nil w w') => pipe_closed (h.move' f)
  rw [hc] at k1
  have K1 := Lib.hid k1
  clear k1 hc
  unfold gzero GotM.agg wzero
  dsimp only
  go_enter Try.func23, Try.ntmps23
  go_wp2_with fail
  refine (K1.out _ (by repeat (first | exact Frm.refl _ _ | apply Frm.drewN | apply Frm.drew | apply Frm.alloc | (refine Frm.then ?_ (by assumption))))).mono ?_
  rintro e w1 ⟨rfl, f1⟩
  have fw := Frm.then (Frm.alloc (Frm.refl Nil w) _) f1
  have rb := box_at f1 id
  have rl := lt_of_block rb
  obtain ⟨r, hr⟩ : ∃ r, w.heap.size = r := ⟨_, rfl⟩
  rw [hr] at rb rl ⊢
  obtain ⟨r0, r1, r2, r3, r4, r5, r6, rf⟩ := box7 rb
  have HR := Lib.hid hr
  clear hr
  go_wp2_with fail
  refine bodyPost_ret (v := .tuple #[.agg #[.bool false, .bool false, .bool false, .int .i64 0, .int .i64 0, .int .i64 0, .int .i64 0], .int .i64 90]) (by simp [results, Try.results23, go_sem, r0, r1, r2, r3, r4, r5, r6, rl]) rfl ⟨rfl, ?_⟩
  have hn : ∀ p : Addr, p.block = r → p.block < w.heap.size → Nil p.block := fun p hp h => by have := HR.out; omega
  exact (((((((fw).setCell (p := ⟨r, 0, none⟩) (hn _ rfl) (.bool false)).setCell (p := ⟨r, 1, none⟩) (hn _ rfl) (.bool false)).setCell (p := ⟨r, 2, none⟩) (hn _ rfl) (.bool false)).setCell (p := ⟨r, 3, none⟩) (hn _ rfl) (.int .i64 0)).setCell (p := ⟨r, 4, none⟩) (hn _ rfl) (.int .i64 0)).setCell (p := ⟨r, 5, none⟩) (hn _ rfl) (.int .i64 0)).setCell (p := ⟨r, 6, none⟩) (hn _ rfl) (.int .i64 0)

set_option maxRecDepth 100000 in
set_option maxHeartbeats 400000 in
theorem send_no (h : PipeAt w S g x) (hc : x.closed = false) (hr : readyF x true = false) (v : Int) : Calls Try.prog 23 #[.pointer (some ⟨g, 0, none⟩), .int .i64 v] w fun e w' => e = .returned (.tuple #[gzero.agg, .int .i64 0]) ∧ Frm Nil w w' := by
  have k1 := fun (w' : World) (f : Frm Nil w w') => pipe_closed (h.move' f)
  have k2 := fun (w' : World) (f : Frm Nil w w') => pipe_ready (h.move' f) true
  rw [hc] at k1
  rw [hr] at k2
  have K1 := Lib.hid k1
  have K2 := Lib.hid k2
  clear k1 k2 hc hr
  unfold gzero GotM.agg wzero
  dsimp only
  go_enter Try.func23, Try.ntmps23
  go_wp2_with fail
  refine (K1.out _ (by repeat (first | exact Frm.refl _ _ | apply Frm.drewN | apply Frm.drew | apply Frm.alloc | (refine Frm.then ?_ (by assumption))))).mono ?_
  rintro e w0 ⟨rfl, f0⟩
  go_wp2_with fail
  refine (K2.out _ (by repeat (first | exact Frm.refl _ _ | apply Frm.drewN | apply Frm.drew | apply Frm.alloc | (refine Frm.then ?_ (by assumption))))).mono ?_
  rintro e w1 ⟨rfl, f1'⟩
  have f1 := f0.then f1'
  have fw := Frm.then (Frm.alloc (Frm.refl Nil w) _) f1
  have rb := box_at f1 id
  have rl := lt_of_block rb
  obtain ⟨r, hr⟩ : ∃ r, w.heap.size = r := ⟨_, rfl⟩
  rw [hr] at rb rl ⊢
  obtain ⟨r0, r1, r2, r3, r4, r5, r6, rf⟩ := box7 rb
  have HR := Lib.hid hr
  clear hr
  go_wp2_with fail
  refine bodyPost_ret (v := .tuple #[.agg #[.bool false, .bool false, .bool false, .int .i64 0, .int .i64 0, .int .i64 0, .int .i64 0], .int .i64 0]) (by simp [results, Try.results23, go_sem, r0, r1, r2, r3, r4, r5, r6, rl]) rfl ⟨rfl, ?_⟩
  have hn : ∀ p : Addr, p.block = r → p.block < w.heap.size → Nil p.block := fun p hp h => by have := HR.out; omega
  exact (((((((fw).setCell (p := ⟨r, 0, none⟩) (hn _ rfl) (.bool false)).setCell (p := ⟨r, 1, none⟩) (hn _ rfl) (.bool false)).setCell (p := ⟨r, 2, none⟩) (hn _ rfl) (.bool false)).setCell (p := ⟨r, 3, none⟩) (hn _ rfl) (.int .i64 0)).setCell (p := ⟨r, 4, none⟩) (hn _ rfl) (.int .i64 0)).setCell (p := ⟨r, 5, none⟩) (hn _ rfl) (.int .i64 0)).setCell (p := ⟨r, 6, none⟩) (hn _ rfl) (.int .i64 0)

set_option maxRecDepth 100000 in
set_option maxHeartbeats 400000 in
theorem send_woke (h : PipeAt w S g x) (hc : x.closed = false) {m : Wtr} {l : List Wtr} (hr : x.receivers = m :: l) (hl : l.length < 1000000) (hn : Cnt x) (v : Int) : Calls Try.prog 23 #[.pointer (some ⟨g, 0, none⟩), .int .i64 v] w
    (PipePost S g w (.tuple #[(⟨true, false, true, 0, m⟩ : GotM).agg, .int .i64 0]) { x with receivers := l, sent := x.sent + 1, received := x.received + 1 }) := by
  have k1 := fun (w' : World) (f : Frm Nil w w') => pipe_closed (h.move' f)
  have k2 := fun (w' : World) (f : Frm Nil w w') => pipe_ready (h.move' f) true
  rw [hc] at k1
  rw [show readyF x true = true by unfold readyF; simp [hr]] at k2
  have K1 := Lib.hid k1
  have K2 := Lib.hid k2
  clear k1 k2
  obtain ⟨b1, b2, b3, b4⟩ := hn
  obtain ⟨mg, mc, mv⟩ := m
  unfold GotM.agg
  dsimp only
  go_enter Try.func23, Try.ntmps23
  go_wp2_with fail
  refine (K1.out _ (by repeat (first | exact Frm.refl _ _ | apply Frm.drewN | apply Frm.drew | apply Frm.alloc | (refine Frm.then ?_ (by assumption))))).mono ?_
  rintro e w0 ⟨rfl, f0⟩
  go_wp2_with fail
  refine (K2.out _ (by repeat (first | exact Frm.refl _ _ | apply Frm.drewN | apply Frm.drew | apply Frm.alloc | (refine Frm.then ?_ (by assumption))))).mono ?_
  rintro e w1 ⟨rfl, f1'⟩
  have f1 := f0.then f1'
  have fw := Frm.then (Frm.alloc (Frm.refl Nil w) _) f1
  have rb := box_at f1 id
  have rl := lt_of_block rb
  have hb := h.bound
  obtain ⟨rgb, sp, rp, R, P, Q, h0⟩ := hb
  have h1 := h0.move (fun k hk => fw.block k hk.2 id)
  obtain ⟨c0, c1, c2, c3, c4, c5, cf⟩ := pipe_cells h1.row
  have gr := h0.own.2
  obtain ⟨r, hr'⟩ : ∃ r, w.heap.size = r := ⟨_, rfl⟩
  have hlo : ∀ k, (S k ∧ k < w.heap.size) → k < r := fun k hk => by rw [← hr']; exact hk.2
  rw [hr'] at rb rl gr
  rw [hr']
  have hgr : g ≠ r := by omega
  have hrg : r ≠ g := by omega
  have HR := Lib.hid hr'
  have HX := Lib.hid hr
  clear hr' hr
  go_wp2_with fail
  have h2 := h1.sent_ (x.sent + 1)
  have h3 := h2.rcv
  dsimp only at h3
  rw [HX.out] at h3
  refine (pew_take h3 hl).mono ?_
  rintro e w2 ⟨rfl, h4, f4⟩
  have h5 := h2.rcv_ h4 f4
  have rb2 : w2.heap[r]? = _ := f4.blk (blk_far rb (p := ⟨g, 4, none⟩) hrg _) (fun hq => by have := hlo _ (h0.subQ r hq).1; omega)
  have rl2 := lt_of_block rb2
  have gl2 := lt_of_block h5.row
  obtain ⟨r0, r1, r2, r3, r4, r5, r6, rf⟩ := box7 rb2
  obtain ⟨d0, d1, d2, d3, d4, d5, df⟩ := pipe_cells h5.row
  unfold Wtr.agg
  dsimp only at d3 d4 d5 ⊢
  go_wp2_with fail
  refine bodyPost_ret (v := .tuple #[.agg #[.bool true, .bool false, .bool true, .int .i64 0, .int .i64 mg, .int .i64 mc, .int .i64 mv], .int .i64 0]) (by simp [results, Try.results23, go_sem, r0, r1, r2, r3, r4, r5, r6, rl2, hgr, hrg]) rfl ?_
  have s1 : (w1.setCell ⟨g, 4, none⟩ (.int .i64 (x.sent + 1))).heap.size = w1.heap.size := by simp [World.setCell]
  have hr2 : ¬ New (fun k => S k ∧ k < w.heap.size) (w1.setCell ⟨g, 4, none⟩ (.int .i64 (x.sent + 1))) w2 r := fun hk => hk.elim (fun h => by have := hlo r h; omega) (fun h => by omega)
  have h6 := h5.received_ (x.received + 1)
  have z0 : Frm (fun k => k = r) (w2.setCell ⟨g, 5, none⟩ (.int .i64 (x.received + 1))) (w2.setCell ⟨g, 5, none⟩ (.int .i64 (x.received + 1))) := Frm.refl _ _
  have z1 := (((((((z0).setCell (p := ⟨r, 0, none⟩) (fun _ => rfl) (.bool true)).setCell (p := ⟨r, 1, none⟩) (fun _ => rfl) (.bool false)).setCell (p := ⟨r, 2, none⟩) (fun _ => rfl) (.bool true)).setCell (p := ⟨r, 3, none⟩) (fun _ => rfl) (.int .i64 0)).setCell (p := ⟨r, 4, none⟩) (fun _ => rfl) (.int .i64 mg)).setCell (p := ⟨r, 5, none⟩) (fun _ => rfl) (.int .i64 mc)).setCell (p := ⟨r, 6, none⟩) (fun _ => rfl) (.int .i64 mv)
  have h7 := h6.bound.move (fun k hk => z1.block k hk.2 (fun e => hr2 (by rw [← e]; exact hk.1)))
  have h8 : PipeAt _ _ g { x with receivers := l, sent := x.sent + 1, received := x.received + 1 } := ⟨_, _, _, _, _, _, h7⟩
  have y1 : Frm S w _ := ((fw.nil (S := S)).setCell (p := ⟨g, 4, none⟩) (fun _ => h0.own.1) (.int .i64 (x.sent + 1))).trans f4 (fun k _ hq => (h0.subQ k hq).1.1)
  have y2 := (y1.setCell (p := ⟨g, 5, none⟩) (fun _ => h0.own.1) (.int .i64 (x.received + 1))).trans z1 (fun k hk e => by have := HR.out; omega)
  rw [show ({ size := x.size, buf := x.buf, senders := x.senders, receivers := l, closed := false, sent := x.sent + 1, received := x.received + 1 } : PipeM) = { x with receivers := l, sent := x.sent + 1, received := x.received + 1 } by rw [← hc]]
  refine ⟨rfl, (h8.move' ((Frm.refl _ _).alloc _)).mono (fun k hk => ?_), y2.alloc _⟩
  have hk1 := hk.2
  simp [World.setCell] at hk1
  rcases hk.1 with hk | hk
  · exact .inl hk.1
  · refine .inr ⟨?_, by simp [World.setCell]; omega⟩
    have := fw.size
    omega

set_option maxRecDepth 100000 in
set_option maxHeartbeats 400000 in
theorem send_push (h : PipeAt w S g x) (hc : x.closed = false) (hr : x.receivers = []) (hz : x.buf.length < x.size) (hn : Cnt x) (v : Int) : Calls Try.prog 23 #[.pointer (some ⟨g, 0, none⟩), .int .i64 v] w
    (PipePost S g w (.tuple #[(⟨true, false, false, 0, wzero⟩ : GotM).agg, .int .i64 0]) { x with buf := x.buf ++ [v], sent := x.sent + 1 }) := by
  have k1 := fun (w' : World) (f : Frm Nil w w') => pipe_closed (h.move' f)
  have k2 := fun (w' : World) (f : Frm Nil w w') => pipe_ready (h.move' f) true
  rw [hc] at k1
  rw [show readyF x true = true by unfold readyF; simp [hz]] at k2
  have K1 := Lib.hid k1
  have K2 := Lib.hid k2
  clear k1 k2
  obtain ⟨b1, b2, b3, b4⟩ := hn
  unfold GotM.agg wzero
  dsimp only
  have HC := Lib.hid hc
  clear hc
  go_enter Try.func23, Try.ntmps23
  go_wp2_with fail
  refine (K1.out _ (by repeat (first | exact Frm.refl _ _ | apply Frm.drewN | apply Frm.drew | apply Frm.alloc | (refine Frm.then ?_ (by assumption))))).mono ?_
  rintro e w0 ⟨rfl, f0⟩
  go_wp2_with fail
  refine (K2.out _ (by repeat (first | exact Frm.refl _ _ | apply Frm.drewN | apply Frm.drew | apply Frm.alloc | (refine Frm.then ?_ (by assumption))))).mono ?_
  rintro e w1 ⟨rfl, f1'⟩
  have f1 := f0.then f1'
  have fw := Frm.then (Frm.alloc (Frm.refl Nil w) _) f1
  have rb := box_at f1 id
  have rl := lt_of_block rb
  have hb := h.bound
  obtain ⟨rgb, sp, rp, R, P, Q, h0⟩ := hb
  have h1 := h0.move (fun k hk => fw.block k hk.2 id)
  obtain ⟨c0, c1, c2, c3, c4, c5, cf⟩ := pipe_cells h1.row
  have gr := h0.own.2
  obtain ⟨r, hr'⟩ : ∃ r, w.heap.size = r := ⟨_, rfl⟩
  have hlo : ∀ k, (S k ∧ k < w.heap.size) → k < r := fun k hk => by rw [← hr']; exact hk.2
  rw [hr'] at rb rl gr
  rw [hr']
  have hgr : g ≠ r := by omega
  have hrg : r ≠ g := by omega
  have HR := Lib.hid hr'
  have HX := Lib.hid hr
  clear hr' hr
  go_wp2_with fail
  have h2 := h1.sent_ (x.sent + 1)
  have h3 := h2.rcv
  dsimp only at h3
  rw [HX.out] at h3
  refine (pew_take_none h3).mono ?_
  rintro e w2 ⟨rfl, h4, f4⟩
  have h5 := h2.rcv_ h4 f4
  have rb2 : w2.heap[r]? = _ := f4.blk (blk_far rb (p := ⟨g, 4, none⟩) hrg _) (fun hq => by have := hlo _ (h0.subQ r hq).1; omega)
  have rl2 := lt_of_block rb2
  have gl2 := lt_of_block h5.row
  have s1 : (w1.setCell ⟨g, 4, none⟩ (.int .i64 (x.sent + 1))).heap.size = w1.heap.size := by simp [World.setCell]
  have hr2 : ¬ New (fun k => S k ∧ k < w.heap.size) (w1.setCell ⟨g, 4, none⟩ (.int .i64 (x.sent + 1))) w2 r := fun hk => hk.elim (fun h => by have := hlo r h; omega) (fun h => by omega)
  obtain ⟨r0, r1, r2, r3, r4, r5, r6, rf⟩ := box7 rb2
  obtain ⟨d0, d1, d2, d3, d4, d5, df⟩ := pipe_cells h5.row
  unfold wzero Wtr.agg
  dsimp only at d3 d4 d5 ⊢
  go_wp2_with fail
  have h5a := h5.later ((Frm.refl Nil w2).alloc (.cells #[.int .i64 0, .int .i64 0, .int .i64 0] 32))
  refine (ring_push_ok h5a.ring hz v).mono ?_
  rintro e w3 ⟨rfl, h6, f6⟩
  have h7 := h5a.ring_ h6 f6
  have hrA : r < (w2.alloc (.cells #[.int .i64 0, .int .i64 0, .int .i64 0] 32)).heap.size := by simp; omega
  have rb3 : w3.heap[r]? = _ := f6.blk ((Below.heap_alloc w2 _ r rl2).trans rb2) (fun hq => hr2 ((h5a.subR r hq).1))
  have rl3 := lt_of_block rb3
  clear r0 r1 r2 r3 r4 r5 r6 rf d0 d1 d2 d3 d4 d5 df
  obtain ⟨r0, r1, r2, r3, r4, r5, r6, rf⟩ := box7 rb3
  go_wp2_with fail
  refine bodyPost_ret (v := .tuple #[.agg #[.bool true, .bool false, .bool false, .int .i64 0, .int .i64 0, .int .i64 0, .int .i64 0], .int .i64 0]) (by simp [results, Try.results23, go_sem, r0, r1, r2, r3, r4, r5, r6, rl3, hgr, hrg]) rfl ?_
  have z0 : Frm (fun k => k = r) w3 w3 := Frm.refl _ _
  have z1 := (((((((z0).setCell (p := ⟨r, 0, none⟩) (fun _ => rfl) (.bool true)).setCell (p := ⟨r, 1, none⟩) (fun _ => rfl) (.bool false)).setCell (p := ⟨r, 2, none⟩) (fun _ => rfl) (.bool false)).setCell (p := ⟨r, 3, none⟩) (fun _ => rfl) (.int .i64 0)).setCell (p := ⟨r, 4, none⟩) (fun _ => rfl) (.int .i64 0)).setCell (p := ⟨r, 5, none⟩) (fun _ => rfl) (.int .i64 0)).setCell (p := ⟨r, 6, none⟩) (fun _ => rfl) (.int .i64 0)
  have h8 := h7.bound.move (fun k hk => z1.block k hk.2 (fun e => hr2 (by rw [← e]; exact hk.1)))
  have h9 : PipeAt _ _ g { x with buf := x.buf ++ [v], receivers := [], sent := x.sent + 1 } := ⟨_, _, _, _, _, _, h8⟩
  have y1 : Frm S w _ := ((fw.nil (S := S)).setCell (p := ⟨g, 4, none⟩) (fun _ => h0.own.1) (.int .i64 (x.sent + 1))).trans f4 (fun k _ hq => (h0.subQ k hq).1.1)
  have y2 := ((y1.alloc (.cells #[.int .i64 0, .int .i64 0, .int .i64 0] 32)).trans f6 (fun k hk hq => by
    rcases (h5a.subR k hq).1 with h | h
    · exact h.1
    · have := fw.size
      omega)).trans z1 (fun k hk e => by have := HR.out; omega)
  rw [show ({ size := x.size, buf := x.buf ++ [v], senders := x.senders, receivers := x.receivers, closed := x.closed, sent := x.sent + 1, received := x.received } : PipeM) = { x with buf := x.buf ++ [v], receivers := [], sent := x.sent + 1 } by rw [HX.out]]
  refine ⟨rfl, h9.mono (fun k hk => ?_), y2⟩
  have hk1 := hk.2
  have hk2 := z1.size
  rcases hk.1 with hk | hk
  · exact .inl hk.1
  · refine .inr ⟨?_, by omega⟩
    have := fw.size
    omega
end

end Go.Proofs.Ytlccpbdpfamekaa
