/- Layer 10: acts, by the program and by the reference alike. -/
import Derived.Test.YtlccpbdpfamekaaForkI
import Derived.Test.YtlccpbdpfamekaaForkJ
namespace Go.Proofs.Ytlccpbdpfamekaa
set_option linter.unusedVariables false
set_option linter.unusedSimpArgs false
open Go.RowKit

structure ActM where
  what : Int
  g : Int
  c : CaseM
  l : List CaseM

def actF (ok : List Bool) (M : List PipeM) (a : ActM) : List PipeM :=
  if a.what = 0 then (tryF ok M a.c).2
  else if a.what = 1 then (match posF ok a.c.chan with | none => M | some i => M.set i (waitF (M.getD i (emptyM 0)) a.c.send ⟨a.g, -1, a.c.value⟩).2)
  else if a.what = 2 then (parkF ok a.g a.l M).2
  else if a.what = 3 then (leaveF ok a.g M).2
  else if a.what = 4 then (match posF ok a.c.chan with | none => M | some i => M.set i (closeF (M.getD i (emptyM 0))).2)
  else M

theorem actF_len (ok : List Bool) (M : List PipeM) (a : ActM) : (actF ok M a).length = M.length := by
  unfold actF
  split
  · exact tryF_len ok M a.c
  split
  · split <;> simp
  split
  · exact parkF_len ok a.g a.l M
  split
  · unfold leaveF; simp
  split
  · split <;> simp
  · rfl

theorem AllInv.act {n : Nat} {M : List PipeM} {ok : List Bool} (h : AllInv n M) (hM : M.length = ok.length) (a : ActM) : AllInv (n + 1) (actF ok M a) := by
  unfold actF
  split
  · exact h.try hM a.c
  split
  · split
    · exact h.more (by omega)
    · rename_i i hi
      have := pos_lt hi
      exact (h.set ((h.get (by omega)).wait _ _) i).more (by omega)
  split
  · exact (h.parkF hM a.g a.l).more (by omega)
  split
  · exact (h.leave a.g).more (by omega)
  split
  · split
    · exact h.more (by omega)
    · rename_i i hi
      have := pos_lt hi
      exact (h.set ((h.get (by omega)).close) i).more (by omega)
  · exact h.more (by omega)

section
variable {w : World} {F : List Piece} {gs hs : List (Option Nat)} {M : List PipeM}

theorem pcs_at' {b off n : Nat} (h : Rd w 1 (some ⟨b, off, none⟩) n (pcs gs)) (k : Nat) (hk : k < gs.length) : w.cell? ⟨b, off + k, none⟩ = some (adr gs[k]) := by
  obtain ⟨b', off', ha, hc⟩ := pcs_at h k hk
  injection ha with ha
  injection ha with h1 h2
  subst h1 h2
  exact hc

theorem ps_close {n i g : Nat} (hM : M.length = gs.length) (h3 : gs[i]? = some (some g)) (hx : Inv9 n (M.getD i (emptyM 0))) (H : SL w (PsP gs M :: F)) :
    Calls Try.prog 26 #[.pointer (some ⟨g, 0, none⟩)] w fun e w' => ∃ a c b d l1 l2, e = .returned (.tuple #[.slice a l1 c, .slice b l2 d, .int .i64 (closeF (M.getD i (emptyM 0))).1.2.2]) ∧ SL w' (PsP gs (M.set i (closeF (M.getD i (emptyM 0))).2) :: F) := by
  refine (sl_close hx.snd.1 hx.rcv.1 (take_ps hM h3 H)).mono ?_
  rintro e w' ⟨a, c, b, d, rfl, H1⟩
  exact ⟨a, c, b, d, _, _, rfl, put_ps hM h3 H1.tl.tl⟩

theorem rs_close {n i g : Nat} (hM : M.length = gs.length) (h3 : gs[i]? = some (some g)) (hx : Inv9 n (M.getD i (emptyM 0))) (H : SL w (RsP gs M :: F)) :
    Calls Try.prog 47 #[.pointer (some ⟨g, 0, none⟩)] w fun e w' => ∃ a c b d l1 l2, e = .returned (.tuple #[.slice a l1 c, .slice b l2 d, .int .i64 (closeF (M.getD i (emptyM 0))).1.2.2]) ∧ SL w' (RsP gs (M.set i (closeF (M.getD i (emptyM 0))).2) :: F) := by
  refine (r_close (take_rs hM h3 H)).mono ?_
  rintro e w' ⟨a, c, b, d, rfl, H1⟩
  exact ⟨a, c, b, d, _, _, rfl, put_rs hM h3 H1.tl.tl⟩

set_option maxRecDepth 100000 in
set_option maxHeartbeats 4000000 in
theorem acts0 {A B D : Piece} {a b la : Option Addr} {ca cb lc n k0 : Nat} {l : List CaseM} (hg : gs.length = n) (hh : hs.length = n) (hM : M.length = n) (ho : oks gs = oks hs) (hI : AllInv k0 M) (hk0 : k0 ≤ 1000000) (hA : Reader A 1 a n (pcs gs)) (hB : Reader B 1 b n (pcs hs)) (hD : Reader D 3 la l.length (l.flatMap CaseM.cells)) (hn : n ≤ 1000) (hl : l.length ≤ 100000) (g : Int) (c : CaseM) (H : SL w (PsP gs M :: RsP hs M :: A :: B :: D :: F)) :
    Calls Try.prog 31 #[.agg #[.slice a n ca, .slice b n cb], .agg #[.int .i64 0, .int .i64 g, .bool c.send, .int .i64 c.chan, .int .i64 c.value, .slice la l.length lc]] w fun e w' => e = .returned (.bool true) ∧ SL w' (PsP gs (tryF (oks gs) M c).2 :: RsP hs (tryF (oks gs) M c).2 :: A :: B :: D :: F) := by
  have hMg : M.length = gs.length := by omega
  have hMh : M.length = hs.length := by omega
  have k1 := fun (w' : World) (F' : List Piece) (H : SL w' (PsP gs M :: A :: F')) => f_try (cb := ca) c hMg hg.symm hA hI hk0 H
  have k2 := fun (w' : World) (F' : List Piece) (H : SL w' (RsP hs M :: B :: F')) => r_try (cb := cb) c hMh hh.symm hB hI hk0 H
  rw [← ho] at k2
  obtain ⟨R, hR⟩ : ∃ R, tryF (oks gs) M c = R := ⟨_, rfl⟩
  rw [hR] at k1 k2
  rw [hR]
  have k3 := l_ref10 R.1.1.mate
  obtain ⟨⟨⟨y1, y2, y3, y4, ⟨zg, zc, zv⟩⟩, ye⟩, y⟩ := R
  obtain ⟨cs, cc, cv⟩ := c
  unfold GotM.agg CaseM.agg at k1 k2
  unfold Wtr.agg at k3
  dsimp only at k1 k2 k3 ⊢
  have K1 := Lib.hid k1
  have K2 := Lib.hid k2
  have K3 := Lib.hid k3
  clear k1 k2 k3 hR hg hh hM ho hI hMg hMh
  go_enter Try.func31, Try.ntmps31
  go_wp2_with fail
  have H1 := (H.alloc (.cells #[.slice a n ca, .slice b n cb] 64)).alloc (.cells #[.int .i64 0, .int .i64 g, .bool cs, .int .i64 cc, .int .i64 cv, .slice la l.length lc] 70)
  rw [size_alloc] at H1
  obtain ⟨bx, hbx⟩ : ∃ b, w.heap.size = b := ⟨_, rfl⟩
  obtain ⟨ba, hba⟩ : ∃ b, bx + 1 = b := ⟨_, rfl⟩
  obtain ⟨W, hW⟩ : ∃ W, (w.alloc (.cells #[.slice a n ca, .slice b n cb] 64)).alloc (.cells #[.int .i64 0, .int .i64 g, .bool cs, .int .i64 cc, .int .i64 cv, .slice la l.length lc] 70) = W := ⟨_, rfl⟩
  rw [hbx, hba, hW] at H1
  simp only [hW, hbx, hba]
  clear hW hbx hba
  obtain ⟨a0, a1, a2, a3, a4, a5, af⟩ := pipe_cells (H1.at 0 rfl)
  obtain ⟨x0, x1, xf⟩ := box2 (H1.at 1 rfl)
  have al := lt_of_block (H1.at 0 rfl)
  have xl := lt_of_block (H1.at 1 rfl)
  go_wp2_with fail
  have H1p := H1.pick [2, 4, 0, 1, 3, 5, 6] 7 (by decide)
  simp only [pk, nth, List.map_cons, List.map_nil, List.drop_succ_cons, List.drop_zero, List.cons_append, List.nil_append] at H1p
  refine (K1.out _ _ H1p).mono ?_
  rintro e w1 ⟨rfl, H2⟩
  clear a0 a1 a2 a3 a4 a5 af x0 x1 xf al xl
  obtain ⟨a0, a1, a2, a3, a4, a5, af⟩ := pipe_cells (H2.at 2 rfl)
  obtain ⟨x0, x1, xf⟩ := box2 (H2.at 3 rfl)
  have al := lt_of_block (H2.at 2 rfl)
  have xl := lt_of_block (H2.at 3 rfl)
  go_wp2_with fail
  have H3 := (H2.alloc (.cells #[.bool y1, .bool y2, .bool y3, .int .i64 y4, .int .i64 zg, .int .i64 zc, .int .i64 zv] 49)).pick [5, 6, 0, 1, 2, 3, 4, 7] 8 (by decide)
  simp only [pk, nth, List.map_cons, List.map_nil, List.drop_succ_cons, List.drop_zero, List.cons_append, List.nil_append] at H3
  obtain ⟨b5, hb5⟩ : ∃ b, w1.heap.size = b := ⟨_, rfl⟩
  rw [hb5] at H3
  simp only [hb5]
  clear hb5
  refine (K2.out _ _ H3).mono ?_
  rintro e w2 ⟨rfl, H4⟩
  go_wp2_with fail
  have H5 := H4.alloc (.cells #[.bool y1, .bool y2, .bool y3, .int .i64 y4, .int .i64 zg, .int .i64 zc, .int .i64 zv] 93)
  obtain ⟨b7, hb7⟩ : ∃ b, w2.heap.size = b := ⟨_, rfl⟩
  obtain ⟨w3, hw3⟩ : ∃ w3, w2.alloc (.cells #[.bool y1, .bool y2, .bool y3, .int .i64 y4, .int .i64 zg, .int .i64 zc, .int .i64 zv] 93) = w3 := ⟨_, rfl⟩
  rw [hb7, hw3] at H5
  simp only [hb7, hw3]
  clear hb7 hw3
  clear a0 a1 a2 a3 a4 a5 af x0 x1 xf al xl
  obtain ⟨q0, q1, q2, q3, q4, q5, q6, qf⟩ := box7 (H5.at 0 rfl)
  obtain ⟨p0, p1, p2, p3, p4, p5, p6, pf⟩ := box7 (H5.at 3 rfl)
  have ql := lt_of_block (H5.at 0 rfl)
  have pl := lt_of_block (H5.at 3 rfl)
  go_region_held3 (fun w' => w'.cell? ⟨b5, 0, none⟩ = some (.bool y1) ∧ w'.cell? ⟨b5, 1, none⟩ = some (.bool y2) ∧ w'.cell? ⟨b5, 2, none⟩ = some (.bool y3) ∧ w'.cell? ⟨b5, 3, none⟩ = some (.int .i64 y4) ∧ w'.cell? ⟨b5, 4, none⟩ = some (.int .i64 zg) ∧ w'.cell? ⟨b5, 5, none⟩ = some (.int .i64 zc) ∧ w'.cell? ⟨b5, 6, none⟩ = some (.int .i64 zv) ∧ w'.cell? ⟨b7, 0, none⟩ = some (.bool y1) ∧ w'.cell? ⟨b7, 1, none⟩ = some (.bool y2) ∧ w'.cell? ⟨b7, 2, none⟩ = some (.bool y3) ∧ w'.cell? ⟨b7, 3, none⟩ = some (.int .i64 y4) ∧ w'.cell? ⟨b7, 4, none⟩ = some (.int .i64 zg) ∧ w'.cell? ⟨b7, 5, none⟩ = some (.int .i64 zc) ∧ w'.cell? ⟨b7, 6, none⟩ = some (.int .i64 zv)) (first | go_keep | (go_split_ands; refine ⟨?_, ?_, ?_, ?_, ?_, ?_, ?_, ?_, ?_, ?_, ?_, ?_, ?_, ?_⟩ <;> exact Frm.out (by assumption) (by assumption) (fun h => h))) ((go_at_call 64; refine (K3.out _).mono ?_; rintro e w4 ⟨rfl, f4⟩))
  all_goals
    go_wp2_with fail
    go_ret
    have H6 := (H5.later (((Frm.refl Nil w3).drewN 1).then f4)).pick [4, 1, 5, 2, 8] 9 (by decide)
    simp only [pk, nth, List.map_cons, List.map_nil, List.drop_succ_cons, List.drop_zero, List.cons_append, List.nil_append] at H6
    exact ⟨rfl, H6⟩

set_option maxRecDepth 100000 in
set_option maxHeartbeats 4000000 in
theorem acts2 {A B D : Piece} {a b la : Option Addr} {ca cb lc n k0 : Nat} {l : List CaseM} (hg : gs.length = n) (hh : hs.length = n) (hM : M.length = n) (ho : oks gs = oks hs) (hI : AllInv k0 M) (hk0 : k0 ≤ 1000000) (hA : Reader A 1 a n (pcs gs)) (hB : Reader B 1 b n (pcs hs)) (hD : Reader D 3 la l.length (l.flatMap CaseM.cells)) (hn : n ≤ 1000) (hl : l.length ≤ 100000) (g : Int) (c : CaseM) (H : SL w (PsP gs M :: RsP hs M :: A :: B :: D :: F)) :
    Calls Try.prog 31 #[.agg #[.slice a n ca, .slice b n cb], .agg #[.int .i64 2, .int .i64 g, .bool c.send, .int .i64 c.chan, .int .i64 c.value, .slice la l.length lc]] w fun e w' => e = .returned (.bool true) ∧ SL w' (PsP gs (parkF (oks gs) g l M).2 :: RsP hs (parkF (oks gs) g l M).2 :: A :: B :: D :: F) := by
  have hMg : M.length = gs.length := by omega
  have hMh : M.length = hs.length := by omega
  have k1 := fun (w' : World) (F' : List Piece) (H : SL w' (PsP gs M :: D :: A :: F')) => f_park (ca := lc) (cb := ca) g hMg rfl hg.symm hD hA hI hl H
  have k2 := fun (w' : World) (F' : List Piece) (H : SL w' (RsP hs M :: D :: B :: F')) => r_park (ca := lc) (cb := cb) g hMh rfl hh.symm hD hB hI hl H
  rw [← ho] at k2
  obtain ⟨⟨⟨rn, re⟩, y⟩, hR⟩ : ∃ R, parkF (oks gs) g l M = R := ⟨_, rfl⟩
  rw [hR] at k1 k2
  rw [hR]
  obtain ⟨cs, cc, cv⟩ := c
  dsimp only at k1 k2 ⊢
  have K1 := Lib.hid k1
  have K2 := Lib.hid k2
  clear k1 k2 hR hg hh hM ho hI hMg hMh
  go_enter Try.func31, Try.ntmps31
  go_wp2_with fail
  have H1 := (H.alloc (.cells #[.slice a n ca, .slice b n cb] 64)).alloc (.cells #[.int .i64 2, .int .i64 g, .bool cs, .int .i64 cc, .int .i64 cv, .slice la l.length lc] 70)
  rw [size_alloc] at H1
  obtain ⟨bx, hbx⟩ : ∃ b, w.heap.size = b := ⟨_, rfl⟩
  obtain ⟨ba, hba⟩ : ∃ b, bx + 1 = b := ⟨_, rfl⟩
  obtain ⟨W, hW⟩ : ∃ W, (w.alloc (.cells #[.slice a n ca, .slice b n cb] 64)).alloc (.cells #[.int .i64 2, .int .i64 g, .bool cs, .int .i64 cc, .int .i64 cv, .slice la l.length lc] 70) = W := ⟨_, rfl⟩
  rw [hbx, hba, hW] at H1
  simp only [hW, hbx, hba]
  clear hW hbx hba
  obtain ⟨a0, a1, a2, a3, a4, a5, af⟩ := pipe_cells (H1.at 0 rfl)
  obtain ⟨x0, x1, xf⟩ := box2 (H1.at 1 rfl)
  have al := lt_of_block (H1.at 0 rfl)
  have xl := lt_of_block (H1.at 1 rfl)
  go_wp2_with fail
  have H1p := H1.pick [2, 6, 4, 0, 1, 3, 5] 7 (by decide)
  simp only [pk, nth, List.map_cons, List.map_nil, List.drop_succ_cons, List.drop_zero, List.cons_append, List.nil_append] at H1p
  refine (K1.out _ _ H1p).mono ?_
  rintro e w1 ⟨rfl, H2⟩
  clear a0 a1 a2 a3 a4 a5 af x0 x1 xf al xl
  obtain ⟨a0, a1, a2, a3, a4, a5, af⟩ := pipe_cells (H2.at 3 rfl)
  obtain ⟨x0, x1, xf⟩ := box2 (H2.at 4 rfl)
  have al := lt_of_block (H2.at 3 rfl)
  have xl := lt_of_block (H2.at 4 rfl)
  go_wp2_with fail
  have H2p := H2.pick [5, 1, 6, 0, 2, 3, 4] 7 (by decide)
  simp only [pk, nth, List.map_cons, List.map_nil, List.drop_succ_cons, List.drop_zero, List.cons_append, List.nil_append] at H2p
  refine (K2.out _ _ H2p).mono ?_
  rintro e w2 ⟨rfl, H3⟩
  go_wp2_with fail
  go_ret
  have H6 := H3.pick [3, 0, 4, 2, 1] 7 (by decide)
  simp only [pk, nth, List.map_cons, List.map_nil, List.drop_succ_cons, List.drop_zero, List.cons_append, List.nil_append] at H6
  exact ⟨rfl, H6⟩

set_option maxRecDepth 100000 in
set_option maxHeartbeats 4000000 in
theorem acts3 {A B D : Piece} {a b la : Option Addr} {ca cb lc n k0 : Nat} {l : List CaseM} (hg : gs.length = n) (hh : hs.length = n) (hM : M.length = n) (ho : oks gs = oks hs) (hI : AllInv k0 M) (hk0 : k0 ≤ 1000000) (hA : Reader A 1 a n (pcs gs)) (hB : Reader B 1 b n (pcs hs)) (hD : Reader D 3 la l.length (l.flatMap CaseM.cells)) (hn : n ≤ 1000) (hl : l.length ≤ 100000) (g : Int) (c : CaseM) (H : SL w (PsP gs M :: RsP hs M :: A :: B :: D :: F)) :
    Calls Try.prog 31 #[.agg #[.slice a n ca, .slice b n cb], .agg #[.int .i64 3, .int .i64 g, .bool c.send, .int .i64 c.chan, .int .i64 c.value, .slice la l.length lc]] w fun e w' => e = .returned (.bool true) ∧ SL w' (PsP gs (leaveF (oks gs) g M).2 :: RsP hs (leaveF (oks gs) g M).2 :: A :: B :: D :: F) := by
  have hMg : M.length = gs.length := by omega
  have hMh : M.length = hs.length := by omega
  have k1 := fun (w' : World) (F' : List Piece) (H : SL w' (PsP gs M :: A :: F')) => f_leave (cb := ca) g hMg hg.symm hA hI (by omega) H
  have k2 := fun (w' : World) (F' : List Piece) (H : SL w' (RsP hs M :: B :: F')) => r_leave (cb := cb) g hMh hh.symm hB hI (by omega) H
  rw [← ho] at k2
  obtain ⟨⟨rn, y⟩, hR⟩ : ∃ R, leaveF (oks gs) g M = R := ⟨_, rfl⟩
  rw [hR] at k1 k2
  rw [hR]
  obtain ⟨cs, cc, cv⟩ := c
  dsimp only at k1 k2 ⊢
  have K1 := Lib.hid k1
  have K2 := Lib.hid k2
  clear k1 k2 hR hg hh hM ho hI hMg hMh
  go_enter Try.func31, Try.ntmps31
  go_wp2_with fail
  have H1 := (H.alloc (.cells #[.slice a n ca, .slice b n cb] 64)).alloc (.cells #[.int .i64 3, .int .i64 g, .bool cs, .int .i64 cc, .int .i64 cv, .slice la l.length lc] 70)
  rw [size_alloc] at H1
  obtain ⟨bx, hbx⟩ : ∃ b, w.heap.size = b := ⟨_, rfl⟩
  obtain ⟨ba, hba⟩ : ∃ b, bx + 1 = b := ⟨_, rfl⟩
  obtain ⟨W, hW⟩ : ∃ W, (w.alloc (.cells #[.slice a n ca, .slice b n cb] 64)).alloc (.cells #[.int .i64 3, .int .i64 g, .bool cs, .int .i64 cc, .int .i64 cv, .slice la l.length lc] 70) = W := ⟨_, rfl⟩
  rw [hbx, hba, hW] at H1
  simp only [hW, hbx, hba]
  clear hW hbx hba
  obtain ⟨a0, a1, a2, a3, a4, a5, af⟩ := pipe_cells (H1.at 0 rfl)
  obtain ⟨x0, x1, xf⟩ := box2 (H1.at 1 rfl)
  have al := lt_of_block (H1.at 0 rfl)
  have xl := lt_of_block (H1.at 1 rfl)
  have H1p := H1.pick [2, 4, 0, 1, 3, 5, 6] 7 (by decide)
  simp only [pk, nth, List.map_cons, List.map_nil, List.drop_succ_cons, List.drop_zero, List.cons_append, List.nil_append] at H1p
  go_wp2_with fail
  go_region_held3 (fun w' => w'.cell? ⟨ba, 1, none⟩ = some (.int .i64 g) ∧ w'.cell? ⟨bx, 0, none⟩ = some (.slice a n ca) ∧ w'.cell? ⟨bx, 1, none⟩ = some (.slice b n cb)) (first | go_keep | (go_split_ands; refine ⟨?_, ?_, ?_⟩ <;> assumption)) (first | (go_at_call 36; (first | (with_reducible refine (K1.out _ _ H1p).mono ?_) | (with_reducible refine (K1.out _ _ H1p.drew).mono ?_)); rintro e w1 ⟨rfl, H2⟩; have H2p := H2.pick [4, 5, 0, 1, 2, 3, 6] 7 (by decide); simp only [pk, nth, List.map_cons, List.map_nil, List.drop_succ_cons, List.drop_zero, List.cons_append, List.nil_append] at H2p; obtain ⟨a0', a1', a2', a3', a4', a5', af'⟩ := pipe_cells (H2.at 2 rfl); obtain ⟨x0', x1', xf'⟩ := box2 (H2.at 3 rfl)) | (go_at_call 37; (with_reducible refine (K2.out _ _ H2p).mono ?_); rintro e w2 ⟨rfl, H3⟩; obtain ⟨a0'', a1'', a2'', a3'', a4'', a5'', af''⟩ := pipe_cells (H3.at 4 rfl); obtain ⟨x0'', x1'', xf''⟩ := box2 (H3.at 5 rfl)))
  all_goals
    go_wp2_with fail
    go_ret
    have H6 := H3.pick [2, 0, 3, 1, 6] 7 (by decide)
    simp only [pk, nth, List.map_cons, List.map_nil, List.drop_succ_cons, List.drop_zero, List.cons_append, List.nil_append] at H6
    exact ⟨rfl, (by repeat (first | with_reducible refine SL.drewN ?_ _ | with_reducible refine SL.drew ?_ | with_reducible refine SL.allocd ?_ _ | with_reducible exact H6))⟩

set_option maxRecDepth 100000 in
set_option maxHeartbeats 4000000 in
theorem acts1 {A B D : Piece} {a b la : Option Addr} {ca cb lc n k0 : Nat} {l : List CaseM} (hg : gs.length = n) (hh : hs.length = n) (hM : M.length = n) (ho : oks gs = oks hs) (hI : AllInv k0 M) (hk0 : k0 ≤ 1000000) (hA : Reader A 1 a n (pcs gs)) (hB : Reader B 1 b n (pcs hs)) (hD : Reader D 3 la l.length (l.flatMap CaseM.cells)) (hn : n ≤ 1000) (hl : l.length ≤ 100000) (g : Int) (c : CaseM) (H : SL w (PsP gs M :: RsP hs M :: A :: B :: D :: F)) :
    Calls Try.prog 31 #[.agg #[.slice a n ca, .slice b n cb], .agg #[.int .i64 1, .int .i64 g, .bool c.send, .int .i64 c.chan, .int .i64 c.value, .slice la l.length lc]] w fun e w' => e = .returned (.bool true) ∧ SL w' (PsP gs (match posF (oks gs) c.chan with | none => M | some i => M.set i (waitF (M.getD i (emptyM 0)) c.send ⟨g, -1, c.value⟩).2) :: RsP hs (match posF (oks gs) c.chan with | none => M | some i => M.set i (waitF (M.getD i (emptyM 0)) c.send ⟨g, -1, c.value⟩).2) :: A :: B :: D :: F) := by
  have hMg : M.length = gs.length := by omega
  have hMh : M.length = hs.length := by omega
  have kn := fun (w' : World) (h : Rd w' 1 b n (pcs hs)) => r_named (cap := cb) c.chan hh.symm h
  rw [ho]
  obtain ⟨cs, cc, cv⟩ := c
  dsimp only at kn ⊢
  rcases nm_pos hs cc with ⟨h1, h2⟩ | ⟨i, ha, h1, h2, h3, h4⟩
  · rw [h1]
    rw [h2] at kn
    unfold adr at kn
    dsimp only [Option.map] at kn ⊢
    have KN := Lib.hid kn
    clear kn h1 h2 hg hh hM ho hI hMg hMh
    go_enter Try.func31, Try.ntmps31
    go_wp2_with fail
    have H1 := (H.alloc (.cells #[.slice a n ca, .slice b n cb] 64)).alloc (.cells #[.int .i64 1, .int .i64 g, .bool cs, .int .i64 cc, .int .i64 cv, .slice la l.length lc] 70)
    rw [size_alloc] at H1
    obtain ⟨bx, hbx⟩ : ∃ b, w.heap.size = b := ⟨_, rfl⟩
    obtain ⟨ba, hba⟩ : ∃ b, bx + 1 = b := ⟨_, rfl⟩
    obtain ⟨W, hW⟩ : ∃ W, (w.alloc (.cells #[.slice a n ca, .slice b n cb] 64)).alloc (.cells #[.int .i64 1, .int .i64 g, .bool cs, .int .i64 cc, .int .i64 cv, .slice la l.length lc] 70) = W := ⟨_, rfl⟩
    rw [hbx, hba, hW] at H1
    simp only [hW, hbx, hba]
    clear hW hbx hba
    obtain ⟨a0, a1, a2, a3, a4, a5, af⟩ := pipe_cells (H1.at 0 rfl)
    obtain ⟨x0, x1, xf⟩ := box2 (H1.at 1 rfl)
    have al := lt_of_block (H1.at 0 rfl)
    have xl := lt_of_block (H1.at 1 rfl)
    go_wp2_with fail
    refine (KN.out _ (H1.up5.read hB)).mono ?_
    rintro e w' ⟨rfl, rfl⟩
    go_wp2_with fail
    go_ret
    exact ⟨rfl, H1.tl.tl⟩
  · rw [h1]
    rw [h2] at kn
    unfold adr at kn
    dsimp only [Option.map] at kn ⊢
    have hih : i < hs.length := (List.getElem?_eq_some_iff.1 h3).1
    have hig : i < gs.length := by omega
    obtain ⟨ga, hga⟩ := oks_both ho.symm hih hig (by rw [List.getElem?_eq_getElem hih] at h3; injection h3)
    have h5 : gs[i]? = some (some ga) := by rw [List.getElem?_eq_getElem hig, hga]
    have hx := hI.get (i := i) (by omega)
    subst h4
    have k1 := fun (w' : World) (F' : List Piece) (H : SL w' (PsP gs M :: F')) => ps_wait (s := cs) (m := ⟨g, -1, cv⟩) hMg h5 hx H
    have k2 := fun (w' : World) (F' : List Piece) (H : SL w' (RsP hs M :: F')) => rs_wait (s := cs) (m := ⟨g, -1, cv⟩) hMh h3 hx H
    obtain ⟨⟨we, wy⟩, hwe⟩ : ∃ r, waitF (M.getD i (emptyM 0)) cs ⟨g, -1, cv⟩ = r := ⟨_, rfl⟩
    rw [hwe] at k1 k2
    rw [hwe]
    unfold Wtr.agg at k1 k2
    dsimp only at k1 k2 ⊢
    have K1 := Lib.hid k1
    have K2 := Lib.hid k2
    clear k1 k2 hwe
    have KN := Lib.hid kn
    have HGA := Lib.hid hga
    have HIG := Lib.hid hig
    have dl : (i : Int) < (n : Int) := by omega
    have dl0 : (0 : Int) ≤ (i : Int) := by omega
    clear kn h1 h2 h3 h5 hg hh hM ho hI hMg hMh hx hga hih
    go_enter Try.func31, Try.ntmps31
    go_wp2_with fail
    have H1 := (H.alloc (.cells #[.slice a n ca, .slice b n cb] 64)).alloc (.cells #[.int .i64 1, .int .i64 g, .bool cs, .int .i64 (i : Int), .int .i64 cv, .slice la l.length lc] 70)
    rw [size_alloc] at H1
    obtain ⟨bx, hbx⟩ : ∃ b, w.heap.size = b := ⟨_, rfl⟩
    obtain ⟨ba, hba⟩ : ∃ b, bx + 1 = b := ⟨_, rfl⟩
    obtain ⟨W, hW⟩ : ∃ W, (w.alloc (.cells #[.slice a n ca, .slice b n cb] 64)).alloc (.cells #[.int .i64 1, .int .i64 g, .bool cs, .int .i64 (i : Int), .int .i64 cv, .slice la l.length lc] 70) = W := ⟨_, rfl⟩
    rw [hbx, hba, hW] at H1
    simp only [hW, hbx, hba]
    clear hW hbx hba
    obtain ⟨a0, a1, a2, a3, a4, a5, af⟩ := pipe_cells (H1.at 0 rfl)
    obtain ⟨x0, x1, xf⟩ := box2 (H1.at 1 rfl)
    have al := lt_of_block (H1.at 0 rfl)
    have xl := lt_of_block (H1.at 1 rfl)
    obtain ⟨b1, o1, e1, d0⟩ := pcs_at (H1.up4.read hA) i HIG.out
    rw [HGA.out] at d0
    unfold adr at d0
    dsimp only [Option.map] at d0
    subst e1
    go_wp2_with fail
    refine (KN.out _ (H1.up5.read hB)).mono ?_
    rintro e w' ⟨rfl, rfl⟩
    go_wp2_with fail
    have H1p := H1.pick [2, 0, 1, 3, 4, 5, 6] 7 (by decide)
    simp only [pk, nth, List.map_cons, List.map_nil, List.drop_succ_cons, List.drop_zero, List.cons_append, List.nil_append] at H1p
    go_region_held3 (fun w' => w'.cell? ⟨ba, 1, none⟩ = some (.int .i64 g) ∧ w'.cell? ⟨ba, 2, none⟩ = some (.bool cs) ∧ w'.cell? ⟨ba, 3, none⟩ = some (.int .i64 i) ∧ w'.cell? ⟨ba, 4, none⟩ = some (.int .i64 cv) ∧ w'.cell? ⟨bx, 0, none⟩ = some (.slice (some ⟨b1, o1, none⟩) n ca) ∧ w'.cell? ⟨b1, o1 + i, none⟩ = some (.pointer (some ⟨ga, 0, none⟩))) (first | go_keep | (go_split_ands; refine ⟨?_, ?_, ?_, ?_, ?_, ?_⟩ <;> assumption)) (first | (go_at_call 25; (first | (with_reducible refine (K1.out _ _ H1p).mono ?_) | (with_reducible refine (K1.out _ _ H1p.drew).mono ?_)); rintro e w1 ⟨rfl, H2⟩; have H2p := H2.pick [3, 0, 1, 2, 4, 5, 6] 7 (by decide); simp only [pk, nth, List.map_cons, List.map_nil, List.drop_succ_cons, List.drop_zero, List.cons_append, List.nil_append] at H2p; obtain ⟨a0', a1', a2', a3', a4', a5', af'⟩ := pipe_cells (H2.at 1 rfl); obtain ⟨x0', x1', xf'⟩ := box2 (H2.at 2 rfl); have d0' := pcs_at' (H2.up4.read hA) i HIG.out; rw [HGA.out] at d0'; unfold adr at d0'; dsimp only [Option.map] at d0') | (go_at_call 45; (with_reducible refine (K2.out _ _ H2p).mono ?_); rintro e w2 ⟨rfl, H3⟩; obtain ⟨a0'', a1'', a2'', a3'', a4'', a5'', af''⟩ := pipe_cells (H3.at 2 rfl); obtain ⟨x0'', x1'', xf''⟩ := box2 (H3.at 3 rfl); have d0'' := pcs_at' (H3.up4.read hA) i HIG.out; rw [HGA.out] at d0''; unfold adr at d0''; dsimp only [Option.map] at d0''))
    all_goals
      go_wp2_with fail
      go_ret
      have H6 := H3.pick [1, 0, 4, 5, 6] 7 (by decide)
      simp only [pk, nth, List.map_cons, List.map_nil, List.drop_succ_cons, List.drop_zero, List.cons_append, List.nil_append] at H6
      exact ⟨rfl, (by repeat (first | with_reducible refine SL.drewN ?_ _ | with_reducible refine SL.drew ?_ | with_reducible refine SL.allocd ?_ _ | with_reducible exact H6))⟩

set_option maxRecDepth 100000 in
set_option maxHeartbeats 4000000 in
theorem acts4 {A B D : Piece} {a b la : Option Addr} {ca cb lc n k0 : Nat} {l : List CaseM} (hg : gs.length = n) (hh : hs.length = n) (hM : M.length = n) (ho : oks gs = oks hs) (hI : AllInv k0 M) (hk0 : k0 ≤ 1000000) (hA : Reader A 1 a n (pcs gs)) (hB : Reader B 1 b n (pcs hs)) (hD : Reader D 3 la l.length (l.flatMap CaseM.cells)) (hn : n ≤ 1000) (hl : l.length ≤ 100000) (g : Int) (c : CaseM) (H : SL w (PsP gs M :: RsP hs M :: A :: B :: D :: F)) :
    Calls Try.prog 31 #[.agg #[.slice a n ca, .slice b n cb], .agg #[.int .i64 4, .int .i64 g, .bool c.send, .int .i64 c.chan, .int .i64 c.value, .slice la l.length lc]] w fun e w' => e = .returned (.bool true) ∧ SL w' (PsP gs (match posF (oks gs) c.chan with | none => M | some i => M.set i (closeF (M.getD i (emptyM 0))).2) :: RsP hs (match posF (oks gs) c.chan with | none => M | some i => M.set i (closeF (M.getD i (emptyM 0))).2) :: A :: B :: D :: F) := by
  have hMg : M.length = gs.length := by omega
  have hMh : M.length = hs.length := by omega
  have kn := fun (w' : World) (h : Rd w' 1 b n (pcs hs)) => r_named (cap := cb) c.chan hh.symm h
  rw [ho]
  obtain ⟨cs, cc, cv⟩ := c
  dsimp only at kn ⊢
  rcases nm_pos hs cc with ⟨h1, h2⟩ | ⟨i, ha, h1, h2, h3, h4⟩
  · rw [h1]
    rw [h2] at kn
    unfold adr at kn
    dsimp only [Option.map] at kn ⊢
    have KN := Lib.hid kn
    clear kn h1 h2 hg hh hM ho hI hMg hMh
    go_enter Try.func31, Try.ntmps31
    go_wp2_with fail
    have H1 := (H.alloc (.cells #[.slice a n ca, .slice b n cb] 64)).alloc (.cells #[.int .i64 4, .int .i64 g, .bool cs, .int .i64 cc, .int .i64 cv, .slice la l.length lc] 70)
    rw [size_alloc] at H1
    obtain ⟨bx, hbx⟩ : ∃ b, w.heap.size = b := ⟨_, rfl⟩
    obtain ⟨ba, hba⟩ : ∃ b, bx + 1 = b := ⟨_, rfl⟩
    obtain ⟨W, hW⟩ : ∃ W, (w.alloc (.cells #[.slice a n ca, .slice b n cb] 64)).alloc (.cells #[.int .i64 4, .int .i64 g, .bool cs, .int .i64 cc, .int .i64 cv, .slice la l.length lc] 70) = W := ⟨_, rfl⟩
    rw [hbx, hba, hW] at H1
    simp only [hW, hbx, hba]
    clear hW hbx hba
    obtain ⟨a0, a1, a2, a3, a4, a5, af⟩ := pipe_cells (H1.at 0 rfl)
    obtain ⟨x0, x1, xf⟩ := box2 (H1.at 1 rfl)
    have al := lt_of_block (H1.at 0 rfl)
    have xl := lt_of_block (H1.at 1 rfl)
    go_wp2_with fail
    refine (KN.out _ (H1.up5.read hB)).mono ?_
    rintro e w' ⟨rfl, rfl⟩
    go_wp2_with fail
    go_ret
    exact ⟨rfl, H1.tl.tl⟩
  · rw [h1]
    rw [h2] at kn
    unfold adr at kn
    dsimp only [Option.map] at kn ⊢
    have hih : i < hs.length := (List.getElem?_eq_some_iff.1 h3).1
    have hig : i < gs.length := by omega
    obtain ⟨ga, hga⟩ := oks_both ho.symm hih hig (by rw [List.getElem?_eq_getElem hih] at h3; injection h3)
    have h5 : gs[i]? = some (some ga) := by rw [List.getElem?_eq_getElem hig, hga]
    have hx := hI.get (i := i) (by omega)
    subst h4
    have k1 := fun (w' : World) (F' : List Piece) (H : SL w' (PsP gs M :: F')) => ps_close hMg h5 hx H
    have k2 := fun (w' : World) (F' : List Piece) (H : SL w' (RsP hs M :: F')) => rs_close hMh h3 hx H
    obtain ⟨⟨⟨L1, L2, we⟩, wy⟩, hwe⟩ : ∃ r, closeF (M.getD i (emptyM 0)) = r := ⟨_, rfl⟩
    rw [hwe] at k1 k2
    rw [hwe]
    dsimp only at k1 k2 ⊢
    have K1 := Lib.hid k1
    have K2 := Lib.hid k2
    clear k1 k2 hwe
    have KN := Lib.hid kn
    have HGA := Lib.hid hga
    have HIG := Lib.hid hig
    have dl : (i : Int) < (n : Int) := by omega
    have dl0 : (0 : Int) ≤ (i : Int) := by omega
    clear kn h1 h2 h3 h5 hg hh hM ho hI hMg hMh hx hga hih
    go_enter Try.func31, Try.ntmps31
    go_wp2_with fail
    have H1 := (H.alloc (.cells #[.slice a n ca, .slice b n cb] 64)).alloc (.cells #[.int .i64 4, .int .i64 g, .bool cs, .int .i64 (i : Int), .int .i64 cv, .slice la l.length lc] 70)
    rw [size_alloc] at H1
    obtain ⟨bx, hbx⟩ : ∃ b, w.heap.size = b := ⟨_, rfl⟩
    obtain ⟨ba, hba⟩ : ∃ b, bx + 1 = b := ⟨_, rfl⟩
    obtain ⟨W, hW⟩ : ∃ W, (w.alloc (.cells #[.slice a n ca, .slice b n cb] 64)).alloc (.cells #[.int .i64 4, .int .i64 g, .bool cs, .int .i64 (i : Int), .int .i64 cv, .slice la l.length lc] 70) = W := ⟨_, rfl⟩
    rw [hbx, hba, hW] at H1
    simp only [hW, hbx, hba]
    clear hW hbx hba
    obtain ⟨a0, a1, a2, a3, a4, a5, af⟩ := pipe_cells (H1.at 0 rfl)
    obtain ⟨x0, x1, xf⟩ := box2 (H1.at 1 rfl)
    have al := lt_of_block (H1.at 0 rfl)
    have xl := lt_of_block (H1.at 1 rfl)
    obtain ⟨b1, o1, e1, d0⟩ := pcs_at (H1.up4.read hA) i HIG.out
    rw [HGA.out] at d0
    unfold adr at d0
    dsimp only [Option.map] at d0
    subst e1
    go_wp2_with fail
    refine (KN.out _ (H1.up5.read hB)).mono ?_
    rintro e w' ⟨rfl, rfl⟩
    go_wp2_with fail
    have H1p := H1.pick [2, 0, 1, 3, 4, 5, 6] 7 (by decide)
    simp only [pk, nth, List.map_cons, List.map_nil, List.drop_succ_cons, List.drop_zero, List.cons_append, List.nil_append] at H1p
    refine (K1.out _ _ H1p).mono ?_
    rintro e w1 ⟨s1, s2, s3, s4, l1, l2, rfl, H2⟩
    have H2p := H2.pick [3, 0, 1, 2, 4, 5, 6] 7 (by decide)
    simp only [pk, nth, List.map_cons, List.map_nil, List.drop_succ_cons, List.drop_zero, List.cons_append, List.nil_append] at H2p
    go_wp2_with fail
    refine (K2.out _ _ H2p).mono ?_
    rintro e w2 ⟨s5, s6, s7, s8, l3, l4, rfl, H3⟩
    go_wp2_with fail
    go_ret
    have H6 := H3.pick [1, 0, 4, 5, 6] 7 (by decide)
    simp only [pk, nth, List.map_cons, List.map_nil, List.drop_succ_cons, List.drop_zero, List.cons_append, List.nil_append] at H6
    exact ⟨rfl, H6⟩

set_option maxRecDepth 100000 in
set_option maxHeartbeats 4000000 in
theorem acts_else {A B D : Piece} {a b la : Option Addr} {ca cb lc n k0 : Nat} {l : List CaseM} (hg : gs.length = n) (hh : hs.length = n) (hM : M.length = n) (ho : oks gs = oks hs) (hI : AllInv k0 M) (hk0 : k0 ≤ 1000000) (hA : Reader A 1 a n (pcs gs)) (hB : Reader B 1 b n (pcs hs)) (hD : Reader D 3 la l.length (l.flatMap CaseM.cells)) (hn : n ≤ 1000) (hl : l.length ≤ 100000) (q : Int) (hq : q < 0 ∨ 4 < q) (g : Int) (c : CaseM) (H : SL w (PsP gs M :: RsP hs M :: A :: B :: D :: F)) :
    Calls Try.prog 31 #[.agg #[.slice a n ca, .slice b n cb], .agg #[.int .i64 q, .int .i64 g, .bool c.send, .int .i64 c.chan, .int .i64 c.value, .slice la l.length lc]] w fun e w' => e = .returned (.bool true) ∧ SL w' (PsP gs M :: RsP hs M :: A :: B :: D :: F) := by
  have e0 : (q == 0) = false := by simp; omega
  have e1 : (q == 1) = false := by simp; omega
  have e2 : (q == 2) = false := by simp; omega
  have e3 : (q == 3) = false := by simp; omega
  have e4 : (q == 4) = false := by simp; omega
  obtain ⟨cs, cc, cv⟩ := c
  clear hq hg hh hM ho hI
  dsimp only
  go_enter Try.func31, Try.ntmps31
  go_wp2_with fail
  go_ret
  exact ⟨rfl, (H.allocd _).allocd _⟩

theorem l_acts {A B D : Piece} {a b la : Option Addr} {ca cb lc n k0 : Nat} {l : List CaseM} (hg : gs.length = n) (hh : hs.length = n) (hM : M.length = n) (ho : oks gs = oks hs) (hI : AllInv k0 M) (hk0 : k0 ≤ 1000000) (hA : Reader A 1 a n (pcs gs)) (hB : Reader B 1 b n (pcs hs)) (hD : Reader D 3 la l.length (l.flatMap CaseM.cells)) (hn : n ≤ 1000) (hl : l.length ≤ 100000) (q g : Int) (c : CaseM) (H : SL w (PsP gs M :: RsP hs M :: A :: B :: D :: F)) :
    Calls Try.prog 31 #[.agg #[.slice a n ca, .slice b n cb], .agg #[.int .i64 q, .int .i64 g, .bool c.send, .int .i64 c.chan, .int .i64 c.value, .slice la l.length lc]] w fun e w' => e = .returned (.bool true) ∧ SL w' (PsP gs (actF (oks gs) M ⟨q, g, c, l⟩) :: RsP hs (actF (oks gs) M ⟨q, g, c, l⟩) :: A :: B :: D :: F) := by
  unfold actF
  dsimp only
  by_cases hq : q < 0 ∨ 4 < q
  · rw [if_neg (by omega), if_neg (by omega), if_neg (by omega), if_neg (by omega), if_neg (by omega)]
    exact acts_else hg hh hM ho hI hk0 hA hB hD hn hl q hq g c H
  · have : q = 0 ∨ q = 1 ∨ q = 2 ∨ q = 3 ∨ q = 4 := by omega
    rcases this with rfl | rfl | rfl | rfl | rfl
    · exact acts0 hg hh hM ho hI hk0 hA hB hD hn hl g c H
    · exact acts1 hg hh hM ho hI hk0 hA hB hD hn hl g c H
    · exact acts2 hg hh hM ho hI hk0 hA hB hD hn hl g c H
    · exact acts3 hg hh hM ho hI hk0 hA hB hD hn hl g c H
    · exact acts4 hg hh hM ho hI hk0 hA hB hD hn hl g c H
end

end Go.Proofs.Ytlccpbdpfamekaa

