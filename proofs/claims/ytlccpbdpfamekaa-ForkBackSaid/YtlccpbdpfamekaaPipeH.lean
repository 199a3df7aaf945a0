/- Layer 9, pipe: Wait, Close; the methods as pieces. -/
import Derived.Test.YtlccpbdpfamekaaPipeG
import Derived.Deep.RegionHeld3
namespace Go.Proofs.Ytlccpbdpfamekaa
set_option linter.unusedVariables false
set_option linter.unusedSimpArgs false
open Go.RowKit

def RingP (g size : Nat) (L : List Int) : Piece := ofAt (fun w S => RingAt w S g size L) RingAt.move RingAt.mono
def PewP (g : Nat) (L : List Wtr) : Piece := ofAt (fun w S => PewAt w S g L) PewAt.move PewAt.mono

/-- A slice that may be read: n elements of sz cells. -/
def RdP (a : Option Addr) (n sz : Nat) (xs : List Value) : Piece where
  on S w := Rd w sz a n xs ∧ ∀ b o, a = some ⟨b, o, none⟩ → 0 < n → S b
  move := by
    rintro S w w' ⟨h1, h2⟩ s
    refine ⟨⟨h1.1, h1.2.1, fun hn => ?_⟩, h2⟩
    obtain ⟨b, off, ha, hc⟩ := h1.2.2 hn
    exact ⟨b, off, ha, fun i u hu => (World.cell?_of_block (w := w) (s.block b (h2 b off ha hn))).trans (hc i u hu)⟩
  mono h k := ⟨h.1, fun b o hb hn => k b (h.2 b o hb hn)⟩

theorem SL.rd {w : World} {F : List Piece} {a : Option Addr} {n sz : Nat} {xs : List Value} (h : SL w (RdP a n sz xs :: F)) : Rd w sz a n xs := by
  obtain ⟨S, _, h⟩ := h.on
  exact h.1

theorem SL.rdNew {w w' : World} {F : List Piece} {a : Option Addr} {n sz : Nat} {xs : List Value} (h : SL w F) (hr : Rd w' sz a n xs) (hs : 0 < sz) (hn : ∀ b o, a = some ⟨b, o, none⟩ → w.heap.size ≤ b) (f : Frm Nil w w') : SL w' (RdP a n sz xs :: F) := by
  refine h.new (M := [RdP a n sz xs]) f ⟨_, fun _ h => h, ⟨hr, fun b o hb hn' => .inr ⟨hn b o hb, ?_⟩⟩, trivial⟩
  obtain ⟨b', off, ha, hc⟩ := hr.2.2 hn'
  rw [hb] at ha
  injection ha with ha
  injection ha with ha1 ha2
  subst ha1
  have hl : 0 < xs.length := by
    rw [hr.1]
    exact Nat.mul_pos hn' hs
  exact World.block_lt_of_cell? w' _ (hc 0 _ (List.getElem?_eq_getElem hl))

theorem SL.rdNil {w : World} {F : List Piece} (sz : Nat) (h : SL w F) : SL w (RdP none 0 sz [] :: F) :=
  ⟨fun _ => False, fun _ h => h.elim, ⟨⟨by simp, Nat.zero_le _, fun h => absurd h (Nat.lt_irrefl 0)⟩, fun b o hb => by cases hb⟩, h.mono (fun k hk => ⟨hk, id⟩)⟩

/-- A slice of waiters comes back, a piece of its own. -/
theorem Wtrs.sl {w w' : World} {F : List Piece} {L : List Wtr} {e : Ending} (h : Wtrs w L e w') (H : SL w F) : ∃ a cap, e = .returned (.slice a L.length cap) ∧ SL w' (RdP a L.length 3 (L.flatMap Wtr.cells) :: F) := by
  obtain ⟨a, cap, rfl, h1, h2, h3⟩ := h
  exact ⟨a, cap, rfl, H.rdNew h1 (by decide) h2 h3⟩

def pipeRow (x : PipeM) (rb sp rp : Nat) : Array Value := #[.pointer (some ⟨rb, 0, none⟩), .pointer (some ⟨sp, 0, none⟩), .pointer (some ⟨rp, 0, none⟩), .bool x.closed, .int .i64 x.sent, .int .i64 x.received]

section
variable {w : World} {F : List Piece} {g : Nat} {x : PipeM}

theorem pipe_open (H : SL w (PipeP g x :: F)) : ∃ rb sp rp, SL w (row g #[.pointer (some ⟨rb, 0, none⟩), .pointer (some ⟨sp, 0, none⟩), .pointer (some ⟨rp, 0, none⟩), .bool x.closed, .int .i64 x.sent, .int .i64 x.received] 90 :: RingP rb x.size x.buf :: PewP sp x.senders :: PewP rp x.receivers :: F) := by
  obtain ⟨T, h1, ⟨rb, sp, rp, R, P, Q, h⟩, h2⟩ := H
  have h0 := h.bound
  have hg := lt_of_block h.row
  refine ⟨rb, sp, rp, fun k => k = g, fun k hk => by rw [hk]; exact hg, ⟨rfl, h.row⟩, R, fun k hk => ⟨h1 k (h.subR k hk).1, (h.subR k hk).2⟩, h.ring, P, fun k hk => ⟨⟨h1 k (h.subP k hk).1, (h.subP k hk).2⟩, fun hr => h.rp_ k hr hk⟩, h.snd, Q, fun k hk => ⟨⟨⟨h1 k (h.subQ k hk).1, (h.subQ k hk).2⟩, fun hr => h.rq_ k hr hk⟩, fun hp => h.pq_ k hp hk⟩, h.rcv, h2.mono (fun k hk => ⟨⟨⟨⟨hk.1, fun e => hk.2 (by rw [e]; exact h.own)⟩, fun e => hk.2 (h.subR k e).1⟩, fun e => hk.2 (h.subP k e).1⟩, fun e => hk.2 (h.subQ k e).1⟩)⟩

theorem pipe_shut {rb sp rp : Nat} (H : SL w (row g #[.pointer (some ⟨rb, 0, none⟩), .pointer (some ⟨sp, 0, none⟩), .pointer (some ⟨rp, 0, none⟩), .bool x.closed, .int .i64 x.sent, .int .i64 x.received] 90 :: RingP rb x.size x.buf :: PewP sp x.senders :: PewP rp x.receivers :: F)) : SL w (PipeP g x :: F) := by
  obtain ⟨T, h1, ⟨hT, hrow⟩, R, hR1, hR, P, hP1, hP, Q, hQ1, hQ, hF⟩ := H
  refine ⟨fun k => T k ∨ R k ∨ P k ∨ Q k, fun k hk => ?_, ⟨rb, sp, rp, R, P, Q, hrow, .inl hT, hR, hP, hQ, fun k hk => ⟨.inr (.inl hk), ?_⟩, fun k hk => ⟨.inr (.inr (.inl hk)), ?_⟩, fun k hk => ⟨.inr (.inr (.inr hk)), ?_⟩, fun k hk hp => (hP1 k hp).2 hk, fun k hk hq => (hQ1 k hq).1.2 hk, fun k hp hq => (hQ1 k hq).2 hp⟩, hF.mono (fun k hk => ⟨hk.1.1.1.1, fun h => ?_⟩)⟩
  · rcases hk with h | h | h | h
    · exact h1 k h
    · exact (hR1 k h).1
    · exact (hP1 k h).1.1
    · exact (hQ1 k h).1.1.1
  · intro e
    subst e
    exact (hR1 _ hk).2 hT
  · intro e
    subst e
    exact (hP1 _ hk).1.2 hT
  · intro e
    subst e
    exact (hQ1 _ hk).1.1.2 hT
  · rcases h with h | h | h | h
    · exact hk.1.1.1.2 h
    · exact hk.1.1.2 h
    · exact hk.1.2 h
    · exact hk.2 h

theorem sl_pew {rb sp rp : Nat} {t : Bool} {i j : Int} (s : Bool) (H : SL w (row g #[.pointer (some ⟨rb, 0, none⟩), .pointer (some ⟨sp, 0, none⟩), .pointer (some ⟨rp, 0, none⟩), .bool t, .int .i64 i, .int .i64 j] 90 :: F)) :
    Calls Try.prog 49 #[.pointer (some ⟨g, 0, none⟩), .bool s] w fun e w' => e = .returned (.pointer (some ⟨if s then sp else rp, 0, none⟩)) ∧ w = w' := by
  obtain ⟨c0, c1, c2, c3, c4, c5, cf⟩ := pipe_cells H.at0
  cases s
  all_goals
    go_enter Try.func49, Try.ntmps49
    go_wp2
    go_ret
    exact ⟨rfl, rfl⟩

theorem sl_pew_new (H : SL w F) : Calls Try.prog 41 #[] w fun e w' => ∃ p, e = .returned (.pointer (some ⟨p, 0, none⟩)) ∧ SL w' (PewP p [] :: F) := by
  refine (pew_new w).mono ?_
  rintro e w' ⟨p, rfl, h1, f1⟩
  exact ⟨p, rfl, H.new (M := [PewP p []]) f1 ⟨_, fun _ h => h, h1, trivial⟩⟩

theorem sl_pew_add {p : Nat} {L : List Wtr} (hL : L.length ≤ 1024) (m : Wtr) (H : SL w (PewP p L :: F)) :
    Calls Try.prog 60 #[.pointer (some ⟨p, 0, none⟩), m.agg] w fun e w' => e = .returned (.int .i64 (addF L m).1) ∧ SL w' (PewP p (addF L m).2 :: F) := by
  unfold addF
  by_cases h1 : m.g < 0 ∨ m.case_ < -1
  · rw [if_pos h1]
    refine (pew_add_arg _ m h1 w).mono ?_
    rintro e w' ⟨rfl, f⟩
    exact ⟨rfl, H.later f⟩
  · rw [if_neg h1]
    by_cases h2 : L.length = 1024
    · rw [if_pos h2]
      obtain ⟨S, _, h⟩ := H.on
      refine (pew_add_full h h2 m (by omega) (by omega)).mono ?_
      rintro e w' ⟨rfl, f⟩
      exact ⟨rfl, H.later f⟩
    · rw [if_neg h2]
      obtain ⟨S, h, _, hG⟩ := H.call
      refine (pew_add_ok h (by omega) m (by omega) (by omega)).mono ?_
      rintro e w' ⟨rfl, h3, f⟩
      exact ⟨rfl, hG w' [PewP p (L ++ [m])] f ⟨_, fun _ h => h, h3, trivial⟩⟩

def waitF (x : PipeM) (s : Bool) (m : Wtr) : Int × PipeM :=
  if readyF x s && !aloneF x (!s) m.g then (7, x)
  else if s then ((addF x.senders m).1, { x with senders := (addF x.senders m).2 }) else ((addF x.receivers m).1, { x with receivers := (addF x.receivers m).2 })

set_option maxRecDepth 100000 in
set_option maxHeartbeats 400000 in
theorem sl_wait (s : Bool) (m : Wtr) (hs : x.senders.length ≤ 1024) (hr : x.receivers.length ≤ 1024) (H : SL w (PipeP g x :: F)) :
    Calls Try.prog 25 #[.pointer (some ⟨g, 0, none⟩), .bool s, m.agg] w fun e w' => e = .returned (.int .i64 (waitF x s m).1) ∧ SL w' (PipeP g (waitF x s m).2 :: F) := by
  have K1 := fun F' w' (H : SL w' (PipeP g x :: F')) => sl_ready s H
  have K2 := fun F' w' (H : SL w' (PipeP g x :: F')) => sl_alone (!s) m.g (Nat.le_trans hs (by decide)) (Nat.le_trans hr (by decide)) H
  obtain ⟨R, hR⟩ : ∃ R, waitF x s m = R := ⟨_, rfl⟩
  rw [hR]
  unfold waitF at hR
  obtain ⟨rd, hrd⟩ : ∃ rd, readyF x s = rd := ⟨_, rfl⟩
  obtain ⟨al, hal⟩ : ∃ al, aloneF x (!s) m.g = al := ⟨_, rfl⟩
  rw [hrd] at K1
  rw [hal] at K2
  rw [hrd, hal] at hR
  have HR := Lib.hid hR
  clear hR
  have HK1 := Lib.hid K1
  have HK2 := Lib.hid K2
  clear hrd hal K1 K2
  obtain ⟨mg, mc, mv⟩ := m
  have HA := Lib.hid (fun p (L : List Wtr) (hL : L.length ≤ 1024) F' w' (H : SL w' (PewP p L :: F')) => sl_pew_add hL ⟨mg, mc, mv⟩ H)
  unfold Wtr.agg at HA ⊢
  dsimp only at HK2 HA ⊢
  go_enter Try.func25, Try.ntmps25
  go_wp2_with fail
  have H1 := (H.alloc (.cells #[.int .i64 mg, .int .i64 mc, .int .i64 mv] 32)).up1
  obtain ⟨b, hb⟩ : ∃ b, w.heap.size = b := ⟨_, rfl⟩
  rw [hb] at H1 ⊢
  clear hb
  refine (HK1.out _ _ H1).mono ?_
  rintro e w1 ⟨rfl, H2⟩
  obtain ⟨b0, b1, b2, bf⟩ := pew_cells H2.at1
  have bl := lt_of_block H2.at1
  have fin : ∀ (s : Bool) w2, SL w2 (PipeP g x :: row b #[.int .i64 mg, .int .i64 mc, .int .i64 mv] 32 :: F) → ∃ (q : Nat) (r : Int × PipeM), r = (if s then ((addF x.senders ⟨mg, mc, mv⟩).1, { x with senders := (addF x.senders ⟨mg, mc, mv⟩).2 }) else ((addF x.receivers ⟨mg, mc, mv⟩).1, { x with receivers := (addF x.receivers ⟨mg, mc, mv⟩).2 })) ∧ ∀ w2', Frm Nil w2 w2' → Calls Try.prog 49 #[.pointer (some ⟨g, 0, none⟩), .bool s] w2' (fun e w' => e = .returned (.pointer (some ⟨q, 0, none⟩)) ∧ w2' = w') ∧ Calls Try.prog 60 #[.pointer (some ⟨q, 0, none⟩), .agg #[.int .i64 mg, .int .i64 mc, .int .i64 mv]] w2' fun e w' => e = .returned (.int .i64 r.1) ∧ SL w' (PipeP g r.2 :: row b #[.int .i64 mg, .int .i64 mc, .int .i64 mv] 32 :: F) := by
    intro s w2 H2
    obtain ⟨rb, sp, rp, H3⟩ := pipe_open H2
    cases s
    · refine ⟨rp, ((addF x.receivers ⟨mg, mc, mv⟩).1, { x with receivers := (addF x.receivers ⟨mg, mc, mv⟩).2 }), rfl, fun w2' f => ⟨sl_pew false (H3.later f), (HA.out rp x.receivers hr _ _ (H3.later f).up3).mono ?_⟩⟩
      rintro e w' ⟨rfl, H4⟩
      exact ⟨rfl, (pipe_shut (x := { x with receivers := (addF x.receivers ⟨mg, mc, mv⟩).2 }) H4.dn3)⟩
    · refine ⟨sp, ((addF x.senders ⟨mg, mc, mv⟩).1, { x with senders := (addF x.senders ⟨mg, mc, mv⟩).2 }), rfl, fun w2' f => ⟨sl_pew true (H3.later f), (HA.out sp x.senders hs _ _ (H3.later f).up2).mono ?_⟩⟩
      rintro e w' ⟨rfl, H4⟩
      exact ⟨rfl, (pipe_shut (x := { x with senders := (addF x.senders ⟨mg, mc, mv⟩).2 }) H4.dn2)⟩
  have FIN := Lib.hid fin
  clear fin HA
  cases rd with
  | false =>
    go_wp2_with fail
    obtain ⟨q, ⟨r1, r2⟩, hq, k1⟩ := FIN.out s _ H2
    have HQ := Lib.hid hq
    clear hq
    have HK4 := Lib.hid k1
    clear k1
    go_region_held3 (fun w' => w'.cell? ⟨b, 0, none⟩ = some (.int .i64 mg) ∧ w'.cell? ⟨b, 1, none⟩ = some (.int .i64 mc) ∧ w'.cell? ⟨b, 2, none⟩ = some (.int .i64 mv)) (first | go_keep | (go_split_ands; refine ⟨?_, ?_, ?_⟩ <;> assumption)) (first | (go_at_call 49; refine (HK4.out _ (by repeat (first | with_reducible exact Frm.refl _ _ | apply Frm.drewN | apply Frm.drew | apply Frm.alloc))).1.mono ?_; rintro e w' ⟨rfl, rfl⟩) | (go_at_call 60; refine (HK4.out _ (by repeat (first | with_reducible exact Frm.refl _ _ | apply Frm.drewN | apply Frm.drew | apply Frm.alloc))).2.mono ?_; rintro e w3 ⟨rfl, H5⟩; obtain ⟨b0', b1', b2', bf'⟩ := pew_cells H5.at1))
    all_goals
      go_wp2_with fail
      go_ret
      have hR := HR.out
      rw [if_neg (by simp), ← HQ.out] at hR
      subst hR
      refine ⟨rfl, ?_⟩
      repeat (first | with_reducible refine SL.drewN ?_ _ | with_reducible refine SL.drew ?_ | with_reducible exact H5.drop1)
  | true =>
    go_wp2_with fail
    refine (HK2.out _ _ H2).mono ?_
    rintro e w2 ⟨rfl, H2⟩
    clear b0 b1 b2 bf bl
    obtain ⟨b0, b1, b2, bf⟩ := pew_cells H2.at1
    have bl := lt_of_block H2.at1
    cases al with
    | false =>
      go_wp2_with fail
      go_ret
      have hR := HR.out
      rw [if_pos (by simp)] at hR
      subst hR
      exact ⟨rfl, H2.drop1⟩
    | true =>
      go_wp2_with fail
      obtain ⟨q, ⟨r1, r2⟩, hq, k1⟩ := FIN.out s _ H2
      have HQ := Lib.hid hq
      clear hq
      have HK4 := Lib.hid k1
      clear k1
      go_region_held3 (fun w' => w'.cell? ⟨b, 0, none⟩ = some (.int .i64 mg) ∧ w'.cell? ⟨b, 1, none⟩ = some (.int .i64 mc) ∧ w'.cell? ⟨b, 2, none⟩ = some (.int .i64 mv)) (first | go_keep | (go_split_ands; refine ⟨?_, ?_, ?_⟩ <;> assumption)) (first | (go_at_call 49; refine (HK4.out _ (by repeat (first | with_reducible exact Frm.refl _ _ | apply Frm.drewN | apply Frm.drew | apply Frm.alloc))).1.mono ?_; rintro e w' ⟨rfl, rfl⟩) | (go_at_call 60; refine (HK4.out _ (by repeat (first | with_reducible exact Frm.refl _ _ | apply Frm.drewN | apply Frm.drew | apply Frm.alloc))).2.mono ?_; rintro e w3 ⟨rfl, H5⟩; obtain ⟨b0', b1', b2', bf'⟩ := pew_cells H5.at1))
      all_goals
        go_wp2_with fail
        go_ret
        have hR := HR.out
        rw [if_neg (by simp), ← HQ.out] at hR
        subst hR
        refine ⟨rfl, ?_⟩
        repeat (first | with_reducible refine SL.drewN ?_ _ | with_reducible refine SL.drew ?_ | with_reducible exact H5.drop1)

set_option maxRecDepth 100000 in
set_option maxHeartbeats 400000 in
theorem sl_wait_nil (s : Bool) (m : Wtr) (H : SL w F) : Calls Try.prog 25 #[.pointer none, .bool s, m.agg] w fun e w' => e = .returned (.int .i64 (if m.g < 0 ∨ m.case_ < -1 then 1 else 0)) ∧ SL w' F := by
  have HA := Lib.hid (fun p (F' : List Piece) w' (H : SL w' (PewP p [] :: F')) => sl_pew_add (by simp) m H)
  have hv : (addF [] m).1 = (if m.g < 0 ∨ m.case_ < -1 then 1 else 0) := by
    unfold addF
    split
    · rfl
    · rfl
  rw [← hv]
  clear hv
  obtain ⟨r, hr⟩ : ∃ r, addF [] m = r := ⟨_, rfl⟩
  rw [hr] at HA ⊢
  clear hr
  obtain ⟨mg, mc, mv⟩ := m
  obtain ⟨r1, r2⟩ := r
  unfold Wtr.agg at HA ⊢
  dsimp only at HA ⊢
  go_enter Try.func25, Try.ntmps25
  go_wp2_with fail
  have H1 := H.alloc (.cells #[.int .i64 mg, .int .i64 mc, .int .i64 mv] 32)
  obtain ⟨b, hb⟩ : ∃ b, w.heap.size = b := ⟨_, rfl⟩
  obtain ⟨w1, hw1⟩ : ∃ w1, w.alloc (.cells #[.int .i64 mg, .int .i64 mc, .int .i64 mv] 32) = w1 := ⟨_, rfl⟩
  rw [hb, hw1] at H1
  rw [hb, hw1]
  clear hb hw1
  obtain ⟨b0, b1, b2, bf⟩ := pew_cells H1.at0
  have bl := lt_of_block H1.at0
  go_region_held3 (fun w' => w'.cell? ⟨b, 0, none⟩ = some (.int .i64 mg) ∧ w'.cell? ⟨b, 1, none⟩ = some (.int .i64 mc) ∧ w'.cell? ⟨b, 2, none⟩ = some (.int .i64 mv)) (first | go_keep | (go_split_ands; refine ⟨?_, ?_, ?_⟩ <;> assumption)) (first | (go_at_call 41; refine (sl_pew_new H1.drew).mono ?_; rintro e w2 ⟨p, rfl, H2⟩; obtain ⟨b0', b1', b2', bf'⟩ := pew_cells H2.at1) | (go_at_call 60; (first | refine (HA.out p _ _ H2).mono ?_ | refine (HA.out p _ _ H2.drew).mono ?_); rintro e w3 ⟨rfl, H3⟩; obtain ⟨b0'', b1'', b2'', bf''⟩ := pew_cells H3.at1))
  all_goals
    go_wp2_with fail
    go_ret
    refine ⟨rfl, ?_⟩
    repeat (first | with_reducible refine SL.drewN ?_ _ | with_reducible refine SL.drew ?_ | with_reducible exact H3.tl.tl)

def closeF (x : PipeM) : (List Wtr × List Wtr × Int) × PipeM :=
  if x.closed then (([], [], 90), x) else ((x.receivers, x.senders, 0), { x with closed := true, senders := [], receivers := [] })

set_option maxRecDepth 100000 in
set_option maxHeartbeats 400000 in
theorem sl_close (hs : x.senders.length ≤ 1024) (hr : x.receivers.length ≤ 1024) (H : SL w (PipeP g x :: F)) :
    Calls Try.prog 26 #[.pointer (some ⟨g, 0, none⟩)] w fun e w' => ∃ a c b d, e = .returned (.tuple #[.slice a (closeF x).1.1.length c, .slice b (closeF x).1.2.1.length d, .int .i64 (closeF x).1.2.2]) ∧
      SL w' (RdP a (closeF x).1.1.length 3 ((closeF x).1.1.flatMap Wtr.cells) :: RdP b (closeF x).1.2.1.length 3 ((closeF x).1.2.1.flatMap Wtr.cells) :: PipeP g (closeF x).2 :: F) := by
  unfold closeF
  by_cases hc : x.closed = true
  · rw [if_pos hc]
    obtain ⟨rb, sp, rp, H1⟩ := pipe_open H
    obtain ⟨c0, c1, c2, c3, c4, c5, cf⟩ := pipe_cells H1.at0
    rw [hc] at c3
    have gl := lt_of_block H1.at0
    have HC := Lib.hid hc
    clear hc
    go_enter Try.func26, Try.ntmps26
    go_wp2_with fail
    go_ret3
    refine ⟨none, 0, none, 0, rfl, SL.rdNil 3 (SL.rdNil 3 ?_)⟩
    repeat (first | with_reducible refine SL.drewN ?_ _ | with_reducible refine SL.drew ?_ | with_reducible exact H)
  · rw [if_neg hc]
    have hc' : x.closed = false := by simpa using hc
    obtain ⟨rb, sp, rp, H1⟩ := pipe_open H
    obtain ⟨c0, c1, c2, c3, c4, c5, cf⟩ := pipe_cells H1.at0
    rw [hc'] at c3
    have gl := lt_of_block H1.at0
    have HC := Lib.hid hc'
    clear hc hc'
    go_enter Try.func26, Try.ntmps26
    go_wp2_with fail
    have H2 := H1.set 3 (.bool true)
    dsimp [Array.setIfInBounds] at H2
    have H3 := pipe_shut (x := { x with closed := true }) H2
    clear H2 c0 c1 c2 c3 c4 c5 cf gl
    refine (sl_waiting (x := { x with closed := true }) false (Nat.le_trans hs (by decide)) (Nat.le_trans hr (by decide)) H3).mono ?_
    intro e w1 hW
    obtain ⟨a, c, rfl, H4⟩ := hW.sl H3
    clear hW
    go_wp2_with fail
    refine (sl_waiting (x := { x with closed := true }) true (Nat.le_trans hs (by decide)) (Nat.le_trans hr (by decide)) H4.up1).mono ?_
    intro e w2 hW
    obtain ⟨b, d, rfl, H5⟩ := hW.sl H4
    clear hW
    go_wp2_with fail
    refine (sl_pew_new H5).mono ?_
    rintro e w3 ⟨p1, rfl, H6⟩
    go_wp2_with fail
    refine (sl_pew_new H6).mono ?_
    rintro e w4 ⟨p2, rfl, H7⟩
    obtain ⟨rb', sp', rp', H8⟩ := pipe_open H7.up4
    obtain ⟨c0, c1, c2, c3, c4, c5, cf⟩ := pipe_cells H8.at0
    have gl := lt_of_block H8.at0
    go_wp2_with fail
    go_ret3
    have H9 := (H8.set 2 (.pointer (some ⟨p1, 0, none⟩))).set 1 (.pointer (some ⟨p2, 0, none⟩))
    dsimp [Array.setIfInBounds] at H9
    have H10 := pipe_shut (x := { x with closed := true, senders := [], receivers := [] }) (H9.drop2.drop2).dn1.dn1
    have H11 := H10.up1.up2
    exact ⟨a, c, b, d, rfl, H11⟩
end

end Go.Proofs.Ytlccpbdpfamekaa
