/- Layer 10, fork: Try, Leave. -/
import Derived.Test.YtlccpbdpfamekaaForkC
namespace Go.Proofs.Ytlccpbdpfamekaa
set_option linter.unusedVariables false
set_option linter.unusedSimpArgs false
open Go.RowKit

section
variable {w : World} {F : List Piece} {gs : List (Option Nat)} {M : List PipeM}

theorem take_ps (hM : M.length = gs.length) {i g : Nat} (h3 : gs[i]? = some (some g)) (H : SL w (PsP gs M :: F)) : SL w (PipeP g (M.getD i (emptyM 0)) :: all ((List.zipWith (pieceO PipeP) gs M).set i emp) :: F) := by
  have hi : i < M.length := by rw [hM]; exact (List.getElem?_eq_some_iff.1 h3).1
  rw [List.getD_eq_getElem?_getD, List.getElem?_eq_getElem hi]
  exact all_take (P := PipeP) h3 (List.getElem?_eq_getElem hi) H
theorem put_ps (hM : M.length = gs.length) {i g : Nat} (h3 : gs[i]? = some (some g)) {y : PipeM} (H : SL w (PipeP g y :: all ((List.zipWith (pieceO PipeP) gs M).set i emp) :: F)) : SL w (PsP gs (M.set i y) :: F) := by
  have hi : i < M.length := by rw [hM]; exact (List.getElem?_eq_some_iff.1 h3).1
  exact all_put (P := PipeP) h3 (List.getElem?_eq_getElem hi) H
theorem take_rs (hM : M.length = gs.length) {i g : Nat} (h3 : gs[i]? = some (some g)) (H : SL w (RsP gs M :: F)) : SL w (RefP g (M.getD i (emptyM 0)) :: all ((List.zipWith (pieceO RefP) gs M).set i emp) :: F) := by
  have hi : i < M.length := by rw [hM]; exact (List.getElem?_eq_some_iff.1 h3).1
  rw [List.getD_eq_getElem?_getD, List.getElem?_eq_getElem hi]
  exact all_take (P := RefP) h3 (List.getElem?_eq_getElem hi) H
theorem put_rs (hM : M.length = gs.length) {i g : Nat} (h3 : gs[i]? = some (some g)) {y : PipeM} (H : SL w (RefP g y :: all ((List.zipWith (pieceO RefP) gs M).set i emp) :: F)) : SL w (RsP gs (M.set i y) :: F) := by
  have hi : i < M.length := by rw [hM]; exact (List.getElem?_eq_some_iff.1 h3).1
  exact all_put (P := RefP) h3 (List.getElem?_eq_getElem hi) H

/-- A send, or a receive, on the pipe of a name. -/
theorem ps_send {n : Nat} (hM : M.length = gs.length) (hI : AllInv n M) (hn : n ≤ 1000000) (c : CaseM) (hs : c.send = true) (H : SL w (PsP gs M :: F)) :
    Calls Try.prog 23 #[adr (nm gs c.chan), .int .i64 c.value] w fun e w' => e = .returned (.tuple #[(tryF (oks gs) M c).1.1.agg, .int .i64 (tryF (oks gs) M c).1.2]) ∧ SL w' (PsP gs (tryF (oks gs) M c).2 :: F) := by
  unfold tryF
  rcases nm_pos gs c.chan with ⟨h1, h2⟩ | ⟨i, g, h1, h2, h3, h4⟩
  · rw [h1, h2]
    refine (pipe_send_nil c.value w).mono ?_
    rintro e w' ⟨rfl, f⟩
    exact ⟨rfl, H.later f⟩
  · rw [h1, h2]
    dsimp only
    rw [if_pos hs]
    have hi : i < M.length := by rw [hM]; exact (List.getElem?_eq_some_iff.1 h3).1
    refine (sl_send c.value (hI.get hi) hn (take_ps hM h3 H)).mono ?_
    rintro e w' ⟨rfl, H1⟩
    exact ⟨rfl, put_ps hM h3 H1⟩

theorem ps_recv {n : Nat} (hM : M.length = gs.length) (hI : AllInv n M) (hn : n ≤ 1000000) (c : CaseM) (hs : c.send = false) (H : SL w (PsP gs M :: F)) :
    Calls Try.prog 24 #[adr (nm gs c.chan)] w fun e w' => e = .returned (tryF (oks gs) M c).1.1.agg ∧ (tryF (oks gs) M c).1.2 = 0 ∧ SL w' (PsP gs (tryF (oks gs) M c).2 :: F) := by
  unfold tryF
  rcases nm_pos gs c.chan with ⟨h1, h2⟩ | ⟨i, g, h1, h2, h3, h4⟩
  · rw [h1, h2]
    refine (pipe_recv_nil w).mono ?_
    rintro e w' ⟨rfl, f⟩
    exact ⟨rfl, rfl, H.later f⟩
  · rw [h1, h2]
    dsimp only
    rw [if_neg (by rw [hs]; simp)]
    have hi : i < M.length := by rw [hM]; exact (List.getElem?_eq_some_iff.1 h3).1
    have hx := hI.get hi
    refine (sl_recv (by have := hx.snd.1; omega) hx.buf (hx.cnt (by omega)) (take_ps hM h3 H)).mono ?_
    rintro e w' ⟨rfl, H1⟩
    exact ⟨rfl, rfl, put_ps hM h3 H1⟩

set_option maxRecDepth 100000 in
set_option maxHeartbeats 1000000 in
theorem f_try {B : Piece} {b : Option Addr} {cb m n : Nat} (c : CaseM) (hM : M.length = gs.length) (hm : m = gs.length) (hB : Reader B 1 b m (pcs gs)) (hI : AllInv n M) (hn : n ≤ 1000000) (H : SL w (PsP gs M :: B :: F)) :
    Calls Try.prog 39 #[c.agg, .slice b m cb] w fun e w' => e = .returned (.tuple #[(tryF (oks gs) M c).1.1.agg, .int .i64 (tryF (oks gs) M c).1.2]) ∧ SL w' (PsP gs (tryF (oks gs) M c).2 :: B :: F) := by
  subst hm
  have k1 := fun (w' : World) (h : Rd w' 1 b gs.length (pcs gs)) => f_named (cap := cb) c.chan rfl h
  have k2 := fun hs (w' : World) (F' : List Piece) (H : SL w' (PsP gs M :: F')) => ps_send hM hI hn c hs H
  have k3 := fun hs (w' : World) (F' : List Piece) (H : SL w' (PsP gs M :: F')) => ps_recv hM hI hn c hs H
  obtain ⟨pv, hpv⟩ : ∃ p, adr (nm gs c.chan) = p := ⟨_, rfl⟩
  obtain ⟨R, hR⟩ : ∃ R, tryF (oks gs) M c = R := ⟨_, rfl⟩
  rw [hpv] at k1 k2 k3
  rw [hR] at k2 k3
  rw [hR]
  clear hpv hR
  obtain ⟨⟨⟨y1, y2, y3, y4, ⟨zg, zc, zv⟩⟩, ye⟩, y⟩ := R
  obtain ⟨cs, cc, cv⟩ := c
  unfold GotM.agg at k2 k3
  unfold GotM.agg CaseM.agg
  dsimp only at k1 k2 k3 ⊢
  have K1 := Lib.hid k1
  have K2 := Lib.hid k2
  have K3 := Lib.hid k3
  have HMM := Lib.hid hM
  clear k1 k2 k3 hM hI
  cases cs with
  | true =>
    go_enter Try.func39, Try.ntmps39
    go_wp2_with fail
    have H2 := (H.alloc (.cells #[.bool true, .int .i64 cc, .int .i64 cv] 67)).alloc (.cells #[.bool false, .bool false, .bool false, .int .i64 0, .int .i64 0, .int .i64 0, .int .i64 0] 49)
    rw [size_alloc] at H2
    obtain ⟨bc, hbc⟩ : ∃ b, w.heap.size = b := ⟨_, rfl⟩
    obtain ⟨r, hr⟩ : ∃ b, bc + 1 = b := ⟨_, rfl⟩
    obtain ⟨W, hW⟩ : ∃ W, (w.alloc (.cells #[.bool true, .int .i64 cc, .int .i64 cv] 67)).alloc (.cells #[.bool false, .bool false, .bool false, .int .i64 0, .int .i64 0, .int .i64 0, .int .i64 0] 49) = W := ⟨_, rfl⟩
    rw [hbc, hr, hW] at H2
    simp only [hW, hbc, hr]
    clear hbc hr hW
    obtain ⟨r0, r1, r2, r3, r4, r5, r6, rf⟩ := box7 (H2.at 0 rfl)
    obtain ⟨c0, c1, c2, cf⟩ := pew_cells (H2.at 1 rfl)
    have rl := lt_of_block (H2.at 0 rfl)
    have cl := lt_of_block (H2.at 1 rfl)
    obtain ⟨n1, n2⟩ := H2.ne 0 1 (by decide) rfl rfl
    refine (K1.out _ (H2.up3.read hB)).mono ?_
    rintro e w' ⟨rfl, rfl⟩
    go_wp2_with fail
    refine (K2.out trivial _ _ H2.up2).mono ?_
    rintro e w1 ⟨rfl, H3⟩
    clear r0 r1 r2 r3 r4 r5 r6 rf c0 c1 c2 cf rl cl n1 n2
    obtain ⟨r0, r1, r2, r3, r4, r5, r6, rf⟩ := box7 (H3.at 1 rfl)
    obtain ⟨c0, c1, c2, cf⟩ := pew_cells (H3.at 2 rfl)
    have rl := lt_of_block (H3.at 1 rfl)
    have cl := lt_of_block (H3.at 2 rfl)
    obtain ⟨n1, n2⟩ := H3.ne 1 2 (by decide) rfl rfl
    go_wp2_with fail
    refine bodyPost_ret (v := .tuple #[.agg #[.bool y1, .bool y2, .bool y3, .int .i64 y4, .int .i64 zg, .int .i64 zc, .int .i64 zv], .int .i64 ye]) (by simp [results, Try.results39, go_sem, r0, r1, r2, r3, r4, r5, r6, rl, n1, n2]) rfl ⟨rfl, SL.tl (A := any r) ?_⟩
    have HE := H3.drop2.up1.toAny
    repeat (first | with_reducible refine SL.scr ?_ _ _ | with_reducible refine SL.allocd ?_ _ | with_reducible exact HE)
  | false =>
    go_enter Try.func39, Try.ntmps39
    go_wp2_with fail
    have H2 := (H.alloc (.cells #[.bool false, .int .i64 cc, .int .i64 cv] 67)).alloc (.cells #[.bool false, .bool false, .bool false, .int .i64 0, .int .i64 0, .int .i64 0, .int .i64 0] 49)
    rw [size_alloc] at H2
    obtain ⟨bc, hbc⟩ : ∃ b, w.heap.size = b := ⟨_, rfl⟩
    obtain ⟨r, hr⟩ : ∃ b, bc + 1 = b := ⟨_, rfl⟩
    obtain ⟨W, hW⟩ : ∃ W, (w.alloc (.cells #[.bool false, .int .i64 cc, .int .i64 cv] 67)).alloc (.cells #[.bool false, .bool false, .bool false, .int .i64 0, .int .i64 0, .int .i64 0, .int .i64 0] 49) = W := ⟨_, rfl⟩
    rw [hbc, hr, hW] at H2
    simp only [hW, hbc, hr]
    clear hbc hr hW
    obtain ⟨r0, r1, r2, r3, r4, r5, r6, rf⟩ := box7 (H2.at 0 rfl)
    obtain ⟨c0, c1, c2, cf⟩ := pew_cells (H2.at 1 rfl)
    have rl := lt_of_block (H2.at 0 rfl)
    have cl := lt_of_block (H2.at 1 rfl)
    obtain ⟨n1, n2⟩ := H2.ne 0 1 (by decide) rfl rfl
    refine (K1.out _ (H2.up3.read hB)).mono ?_
    rintro e w' ⟨rfl, rfl⟩
    go_wp2_with fail
    refine (K3.out trivial _ _ H2.up2).mono ?_
    rintro e w1 ⟨rfl, rfl, H3⟩
    clear r0 r1 r2 r3 r4 r5 r6 rf c0 c1 c2 cf rl cl n1 n2
    obtain ⟨r0, r1, r2, r3, r4, r5, r6, rf⟩ := box7 (H3.at 1 rfl)
    obtain ⟨c0, c1, c2, cf⟩ := pew_cells (H3.at 2 rfl)
    have rl := lt_of_block (H3.at 1 rfl)
    have cl := lt_of_block (H3.at 2 rfl)
    obtain ⟨n1, n2⟩ := H3.ne 1 2 (by decide) rfl rfl
    go_wp2_with fail
    refine bodyPost_ret (v := .tuple #[.agg #[.bool y1, .bool y2, .bool y3, .int .i64 y4, .int .i64 zg, .int .i64 zc, .int .i64 zv], .int .i64 0]) (by simp [results, Try.results39, go_sem, r0, r1, r2, r3, r4, r5, r6, rl, n1, n2]) rfl ⟨rfl, SL.tl (A := any r) ?_⟩
    have HE := H3.drop2.up1.toAny
    repeat (first | with_reducible refine SL.scr ?_ _ _ | with_reducible refine SL.allocd ?_ _ | with_reducible exact HE)

set_option maxRecDepth 100000 in
set_option maxHeartbeats 1000000 in
theorem r_try {B : Piece} {b : Option Addr} {cb m n : Nat} (c : CaseM) (hM : M.length = gs.length) (hm : m = gs.length) (hB : Reader B 1 b m (pcs gs)) (hI : AllInv n M) (hn : n ≤ 1000000) (H : SL w (RsP gs M :: B :: F)) :
    Calls Try.prog 63 #[c.agg, .slice b m cb] w fun e w' => e = .returned (.tuple #[(tryF (oks gs) M c).1.1.agg, .int .i64 (tryF (oks gs) M c).1.2]) ∧ SL w' (RsP gs (tryF (oks gs) M c).2 :: B :: F) := by
  subst hm
  have k1 := fun (w' : World) (h : Rd w' 1 b gs.length (pcs gs)) => r_named (cap := cb) c.chan rfl h
  obtain ⟨R, hR⟩ : ∃ R, tryF (oks gs) M c = R := ⟨_, rfl⟩
  rw [hR]
  obtain ⟨⟨⟨y1, y2, y3, y4, ⟨zg, zc, zv⟩⟩, ye⟩, y⟩ := R
  obtain ⟨cs, cc, cv⟩ := c
  unfold GotM.agg CaseM.agg
  unfold tryF at hR
  dsimp only at k1 hR ⊢
  rcases nm_pos gs cc with ⟨h1, h2⟩ | ⟨i, g, h1, h2, h3, h4⟩
  · rw [h2] at k1
    rw [h1] at hR
    unfold adr at k1
    simp only [Option.map, gzero, wzero, Prod.mk.injEq, GotM.mk.injEq, Wtr.mk.injEq] at k1 hR
    obtain ⟨⟨⟨rfl, rfl, rfl, rfl, rfl, rfl, rfl⟩, rfl⟩, rfl⟩ := hR
    have K1 := Lib.hid k1
    have HMM := Lib.hid hM
    clear k1 hM hI h1 h2
    go_enter Try.func63, Try.ntmps63
    go_wp2_with fail
    have H2 := (H.alloc (.cells #[.bool cs, .int .i64 cc, .int .i64 cv] 67)).alloc (.cells #[.bool false, .bool false, .bool false, .int .i64 0, .int .i64 0, .int .i64 0, .int .i64 0] 93)
    rw [size_alloc] at H2
    obtain ⟨bc, hbc⟩ : ∃ b, w.heap.size = b := ⟨_, rfl⟩
    obtain ⟨r, hr⟩ : ∃ b, bc + 1 = b := ⟨_, rfl⟩
    obtain ⟨W, hW⟩ : ∃ W, (w.alloc (.cells #[.bool cs, .int .i64 cc, .int .i64 cv] 67)).alloc (.cells #[.bool false, .bool false, .bool false, .int .i64 0, .int .i64 0, .int .i64 0, .int .i64 0] 93) = W := ⟨_, rfl⟩
    rw [hbc, hr, hW] at H2
    simp only [hW, hbc, hr]
    clear hbc hr hW
    obtain ⟨r0, r1, r2, r3, r4, r5, r6, rf⟩ := box7 (H2.at 0 rfl)
    obtain ⟨c0, c1, c2, cf⟩ := pew_cells (H2.at 1 rfl)
    have rl := lt_of_block (H2.at 0 rfl)
    have cl := lt_of_block (H2.at 1 rfl)
    obtain ⟨n1, n2⟩ := H2.ne 0 1 (by decide) rfl rfl
    refine (K1.out _ (H2.up3.read hB)).mono ?_
    rintro e w' ⟨rfl, rfl⟩
    go_wp2_with fail
    refine bodyPost_ret (v := .tuple #[.agg #[.bool false, .bool false, .bool false, .int .i64 0, .int .i64 0, .int .i64 0, .int .i64 0], .int .i64 0]) (by simp [results, Try.results63, go_sem, r0, r1, r2, r3, r4, r5, r6, rl, n1, n2]) rfl ⟨rfl, SL.tl (A := any r) ?_⟩
    have HE := H2.drop1.toAny
    repeat (first | with_reducible refine SL.scr ?_ _ _ | with_reducible refine SL.allocd ?_ _ | with_reducible exact HE)
  · have hi : i < M.length := by rw [hM]; exact (List.getElem?_eq_some_iff.1 h3).1
    have hx := hI.get hi
    rw [h2] at k1
    rw [h1] at hR
    unfold adr at k1
    simp only [Option.map] at k1
    have K1 := Lib.hid k1
    have TK := Lib.hid (fun (w' : World) (F' : List Piece) (H : SL w' (RsP gs M :: F')) => take_rs hM h3 H)
    have PT := Lib.hid (fun (w' : World) (F' : List Piece) (y : PipeM) (H : SL w' (RefP g y :: all ((List.zipWith (pieceO RefP) gs M).set i emp) :: F')) => put_rs hM h3 H)
    cases cs with
    | true =>
      simp only [if_true, Prod.mk.injEq] at hR
      obtain ⟨hR1, hR2⟩ := hR
      have k2 := fun (w' : World) (F' : List Piece) (H : SL w' (RefP g (M.getD i (emptyM 0)) :: F')) => r_send cv (by have := hx.rcv.1; omega) (by have := hx.buf; have := hx.size; omega) (hx.cnt (by omega)) H
      rw [hR1] at k2
      obtain ⟨y', hy'⟩ : ∃ y', (sendF (M.getD i (emptyM 0)) cv).2 = y' := ⟨_, rfl⟩
      rw [hy'] at k2 hR2
      subst hR2
      unfold GotM.agg at k2
      dsimp only at k2
      have K2 := Lib.hid k2
      have HMM := Lib.hid hM
      clear k1 k2 hM hI h1 h2 h3 h4 hx hy' hR1
      go_enter Try.func63, Try.ntmps63
      go_wp2_with fail
      have H2 := (H.alloc (.cells #[.bool true, .int .i64 cc, .int .i64 cv] 67)).alloc (.cells #[.bool false, .bool false, .bool false, .int .i64 0, .int .i64 0, .int .i64 0, .int .i64 0] 93)
      rw [size_alloc] at H2
      obtain ⟨bc, hbc⟩ : ∃ b, w.heap.size = b := ⟨_, rfl⟩
      obtain ⟨r, hr⟩ : ∃ b, bc + 1 = b := ⟨_, rfl⟩
      obtain ⟨W, hW⟩ : ∃ W, (w.alloc (.cells #[.bool true, .int .i64 cc, .int .i64 cv] 67)).alloc (.cells #[.bool false, .bool false, .bool false, .int .i64 0, .int .i64 0, .int .i64 0, .int .i64 0] 93) = W := ⟨_, rfl⟩
      rw [hbc, hr, hW] at H2
      simp only [hW, hbc, hr]
      clear hbc hr hW
      obtain ⟨r0, r1, r2, r3, r4, r5, r6, rf⟩ := box7 (H2.at 0 rfl)
      obtain ⟨c0, c1, c2, cf⟩ := pew_cells (H2.at 1 rfl)
      have rl := lt_of_block (H2.at 0 rfl)
      have cl := lt_of_block (H2.at 1 rfl)
      obtain ⟨n1, n2⟩ := H2.ne 0 1 (by decide) rfl rfl
      refine (K1.out _ (H2.up3.read hB)).mono ?_
      rintro e w' ⟨rfl, rfl⟩
      go_wp2_with fail
      refine (K2.out _ _ (TK.out _ _ H2.up2)).mono ?_
      rintro e w1 ⟨rfl, H3'⟩
      have H3 := PT.out _ _ _ H3'
      clear r0 r1 r2 r3 r4 r5 r6 rf c0 c1 c2 cf rl cl n1 n2
      obtain ⟨r0, r1, r2, r3, r4, r5, r6, rf⟩ := box7 (H3.at 1 rfl)
      obtain ⟨c0, c1, c2, cf⟩ := pew_cells (H3.at 2 rfl)
      have rl := lt_of_block (H3.at 1 rfl)
      have cl := lt_of_block (H3.at 2 rfl)
      obtain ⟨n1, n2⟩ := H3.ne 1 2 (by decide) rfl rfl
      go_wp2_with fail
      refine bodyPost_ret (v := .tuple #[.agg #[.bool y1, .bool y2, .bool y3, .int .i64 y4, .int .i64 zg, .int .i64 zc, .int .i64 zv], .int .i64 ye]) (by simp [results, Try.results63, go_sem, r0, r1, r2, r3, r4, r5, r6, rl, n1, n2]) rfl ⟨rfl, SL.tl (A := any r) ?_⟩
      have HE := H3.drop2.up1.toAny
      repeat (first | with_reducible refine SL.scr ?_ _ _ | with_reducible refine SL.allocd ?_ _ | with_reducible exact HE)

    | false =>
      simp only [Bool.false_eq_true, if_false, Prod.mk.injEq] at hR
      obtain ⟨⟨hR1, rfl⟩, hR2⟩ := hR
      have k2 := fun (w' : World) (F' : List Piece) (H : SL w' (RefP g (M.getD i (emptyM 0)) :: F')) => r_recv (by have := hx.snd.1; omega) (by have := hx.buf; have := hx.size; omega) (hx.cnt (by omega)) H
      rw [hR1] at k2
      obtain ⟨y', hy'⟩ : ∃ y', (recvF (M.getD i (emptyM 0))).2 = y' := ⟨_, rfl⟩
      rw [hy'] at k2 hR2
      subst hR2
      unfold GotM.agg at k2
      dsimp only at k2
      have K2 := Lib.hid k2
      have HMM := Lib.hid hM
      clear k1 k2 hM hI h1 h2 h3 h4 hx hy' hR1
      go_enter Try.func63, Try.ntmps63
      go_wp2_with fail
      have H2 := (H.alloc (.cells #[.bool false, .int .i64 cc, .int .i64 cv] 67)).alloc (.cells #[.bool false, .bool false, .bool false, .int .i64 0, .int .i64 0, .int .i64 0, .int .i64 0] 93)
      rw [size_alloc] at H2
      obtain ⟨bc, hbc⟩ : ∃ b, w.heap.size = b := ⟨_, rfl⟩
      obtain ⟨r, hr⟩ : ∃ b, bc + 1 = b := ⟨_, rfl⟩
      obtain ⟨W, hW⟩ : ∃ W, (w.alloc (.cells #[.bool false, .int .i64 cc, .int .i64 cv] 67)).alloc (.cells #[.bool false, .bool false, .bool false, .int .i64 0, .int .i64 0, .int .i64 0, .int .i64 0] 93) = W := ⟨_, rfl⟩
      rw [hbc, hr, hW] at H2
      simp only [hW, hbc, hr]
      clear hbc hr hW
      obtain ⟨r0, r1, r2, r3, r4, r5, r6, rf⟩ := box7 (H2.at 0 rfl)
      obtain ⟨c0, c1, c2, cf⟩ := pew_cells (H2.at 1 rfl)
      have rl := lt_of_block (H2.at 0 rfl)
      have cl := lt_of_block (H2.at 1 rfl)
      obtain ⟨n1, n2⟩ := H2.ne 0 1 (by decide) rfl rfl
      refine (K1.out _ (H2.up3.read hB)).mono ?_
      rintro e w' ⟨rfl, rfl⟩
      go_wp2_with fail
      refine (K2.out _ _ (TK.out _ _ H2.up2)).mono ?_
      rintro e w1 ⟨rfl, H3'⟩
      have H3 := PT.out _ _ _ H3'
      clear r0 r1 r2 r3 r4 r5 r6 rf c0 c1 c2 cf rl cl n1 n2
      obtain ⟨r0, r1, r2, r3, r4, r5, r6, rf⟩ := box7 (H3.at 1 rfl)
      obtain ⟨c0, c1, c2, cf⟩ := pew_cells (H3.at 2 rfl)
      have rl := lt_of_block (H3.at 1 rfl)
      have cl := lt_of_block (H3.at 2 rfl)
      obtain ⟨n1, n2⟩ := H3.ne 1 2 (by decide) rfl rfl
      go_wp2_with fail
      refine bodyPost_ret (v := .tuple #[.agg #[.bool y1, .bool y2, .bool y3, .int .i64 y4, .int .i64 zg, .int .i64 zc, .int .i64 zv], .int .i64 0]) (by simp [results, Try.results63, go_sem, r0, r1, r2, r3, r4, r5, r6, rl, n1, n2]) rfl ⟨rfl, SL.tl (A := any r) ?_⟩
      have HE := H3.drop2.up1.toAny
      repeat (first | with_reducible refine SL.scr ?_ _ _ | with_reducible refine SL.allocd ?_ _ | with_reducible exact HE)

end

end Go.Proofs.Ytlccpbdpfamekaa
