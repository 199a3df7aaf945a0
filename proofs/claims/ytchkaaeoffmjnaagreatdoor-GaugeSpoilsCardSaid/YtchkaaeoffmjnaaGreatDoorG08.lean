/- Texts of the proof, several in one file: ForkE, ForkF, ForkG, LoomX0, LoomX1, Loom2, LoomQ, LoomX2, Loom3, Loom4, LoomX3, Loom5, LoomX4, Loom6, Loom7, Loom8, Loom9, LoomX5, LoomX6. -/
import Derived.Test.YtchkaaeoffmjnaaGreatDoorG04
import Derived.Test.YtchkaaeoffmjnaaGreatDoorG05
import Derived.Test.YtchkaaeoffmjnaaGreatDoorG07
namespace Go.Proofs.YtchkaaeoffmjnaaGreatDoor
set_option linter.unusedVariables false
set_option linter.unusedSimpArgs false
open Go.RowKit
section
variable {w : World} {F : List Piece} {gs : List (Option Nat)} {M : List PipeM}
theorem take_ps (hM : M.length = gs.length) {i g : Nat} (h3 : gs[i]? = some (some g)) (H : SL w (PsP gs M :: F)) : SL w (PipeP g (M.getD i (emptyM 0)) :: all ((List.zipWith (pieceO PipeP) gs M).set i emp) :: F) := by
 have hi : i < M.length := by rw [hM]; exact (List.getElem?_eq_some_iff.1 h3).1
 rw [List.getD_eq_getElem?_getD, List.getElem?_eq_getElem hi]
 exact all_take (P := PipeP) h3 (List.getElem?_eq_getElem hi) H
theorem put_ps (hM : M.length = gs.length) {i g : Nat} (h3 : gs[i]? = some (some g)) {y : PipeM} (H : SL w (PipeP g y :: all ((List.zipWith (pieceO PipeP) gs M).set i emp) :: F)) : SL w (PsP gs (M.set i y) :: F) := by
 have hi : i < M.length := by rw [hM]; exact (List.getElem?_eq_some_iff.1 h3).1
 exact all_put (P := PipeP) h3 (List.getElem?_eq_getElem hi) H
/-- A send, or a receive, on the pipe of a name. -/
theorem ps_send {n : Nat} (hM : M.length = gs.length) (hI : AllInv n M) (hn : n ≤ 1000000) (c : CaseM) (hs : c.send = true) (H : SL w (PsP gs M :: F)) :
  Calls Tryz.prog 195 #[adr (nm gs c.chan), .int .i64 c.value] w fun e w' => e = .returned (.tuple #[(tryF (oks gs) M c).1.1.agg, .int .i64 (tryF (oks gs) M c).1.2]) ∧ SL w' (PsP gs (tryF (oks gs) M c).2 :: F) := by
 unfold tryF
 rcases nm_pos gs c.chan with ⟨h1, h2⟩ | ⟨i, g, h1, h2, h3, h4⟩
 ·rw [h1, h2]
  refine (pipe_send_nil c.value w).mono ?_
  rintro e w' ⟨rfl, f⟩
  exact ⟨rfl, H.later f⟩
 ·rw [h1, h2]
  dsimp only
  rw [if_pos hs]
  have hi : i < M.length := by rw [hM]; exact (List.getElem?_eq_some_iff.1 h3).1
  refine (sl_send c.value (hI.get hi) hn (take_ps hM h3 H)).mono ?_
  rintro e w' ⟨rfl, H1⟩
  exact ⟨rfl, put_ps hM h3 H1⟩
theorem ps_recv {n : Nat} (hM : M.length = gs.length) (hI : AllInv n M) (hn : n ≤ 1000000) (c : CaseM) (hs : c.send = false) (H : SL w (PsP gs M :: F)) :
  Calls Tryz.prog 196 #[adr (nm gs c.chan)] w fun e w' => e = .returned (tryF (oks gs) M c).1.1.agg ∧ (tryF (oks gs) M c).1.2 = 0 ∧ SL w' (PsP gs (tryF (oks gs) M c).2 :: F) := by
 unfold tryF
 rcases nm_pos gs c.chan with ⟨h1, h2⟩ | ⟨i, g, h1, h2, h3, h4⟩
 ·rw [h1, h2]
  refine (pipe_recv_nil w).mono ?_
  rintro e w' ⟨rfl, f⟩
  exact ⟨rfl, rfl, H.later f⟩
 ·rw [h1, h2]
  dsimp only
  rw [if_neg (by rw [hs]; simp)]
  have hi : i < M.length := by rw [hM]; exact (List.getElem?_eq_some_iff.1 h3).1
  have hx := hI.get hi
  refine (sl_recv (by have := hx.snd.1; omega) hx.buf (hx.cnt (by omega)) (take_ps hM h3 H)).mono ?_
  rintro e w' ⟨rfl, H1⟩
  exact ⟨rfl, rfl, put_ps hM h3 H1⟩
set_option maxRecDepth 100000 in
set_option maxHeartbeats 1000000 in
theorem f_try {B : Piece} {b : Option Addr} {cb m n : Nat} (c : CaseM) (hM : M.length = gs.length) (hm : m = gs.length) (hB : Reader B 1 b m (pcs gs)) (hI : AllInv n M) (hn : n ≤ 1000000) (H : SL w (PsP gs M :: B :: F)) :
  Calls Tryz.prog 158 #[c.agg, .slice b m cb] w fun e w' => e = .returned (.tuple #[(tryF (oks gs) M c).1.1.agg, .int .i64 (tryF (oks gs) M c).1.2]) ∧ SL w' (PsP gs (tryF (oks gs) M c).2 :: B :: F) := by
 subst hm
 have k1 := fun (w' : World) (h : Rd w' 1 b gs.length (pcs gs)) => f_named (cap := cb) c.chan rfl h
 have k2 := fun hs (w' : World) (F' : List Piece) (H : SL w' (PsP gs M :: F')) => ps_send hM hI hn c hs H
 have k3 := fun hs (w' : World) (F' : List Piece) (H : SL w' (PsP gs M :: F')) => ps_recv hM hI hn c hs H
 obtain ⟨pv, hpv⟩ : ∃ p, adr (nm gs c.chan) = p := ⟨_, rfl⟩
 obtain ⟨R, hR⟩ : ∃ R, tryF (oks gs) M c = R := ⟨_, rfl⟩
 rw [hpv] at k1 k2 k3
 rw [hR] at k2 k3
 rw [hR]
 clear hpv hR
 obtain ⟨⟨⟨y1, y2, y3, y4, ⟨zg, zc, zv⟩⟩, ye⟩, y⟩ := R
 obtain ⟨cs, cc, cv⟩ := c
 unfold GotM.agg at k2 k3
 unfold GotM.agg CaseM.agg
 dsimp only at k1 k2 k3 ⊢
 have K1 := Lib.hid k1
 have K2 := Lib.hid k2
 have K3 := Lib.hid k3
 have HMM := Lib.hid hM
 clear k1 k2 k3 hM hI
 cases cs with
 | true =>
  go_enter Tryz.func158, Tryz.ntmps158
  go_wp2_with fail
  have H2 := (H.alloc (.cells #[.bool true, .int .i64 cc, .int .i64 cv] 154)).alloc (.cells #[.bool false, .bool false, .bool false, .int .i64 0, .int .i64 0, .int .i64 0, .int .i64 0] 227)
  rw [size_alloc] at H2
  obtain ⟨bc, hbc⟩ : ∃ b, w.heap.size = b := ⟨_, rfl⟩
  obtain ⟨r, hr⟩ : ∃ b, bc + 1 = b := ⟨_, rfl⟩
  obtain ⟨W, hW⟩ : ∃ W, (w.alloc (.cells #[.bool true, .int .i64 cc, .int .i64 cv] 154)).alloc (.cells #[.bool false, .bool false, .bool false, .int .i64 0, .int .i64 0, .int .i64 0, .int .i64 0] 227) = W := ⟨_, rfl⟩
  rw [hbc, hr, hW] at H2
  simp only [hW, hbc, hr]
  clear hbc hr hW
  obtain ⟨r0, r1, r2, r3, r4, r5, r6, rf⟩ := box7 (H2.at 0 rfl)
  obtain ⟨c0, c1, c2, cf⟩ := pew_cells (H2.at 1 rfl)
  have rl := lt_of_block (H2.at 0 rfl)
  have cl := lt_of_block (H2.at 1 rfl)
  obtain ⟨n1, n2⟩ := H2.ne 0 1 (by decide) rfl rfl
  refine (K1.out _ (H2.up3.read hB)).mono ?_
  rintro e w' ⟨rfl, rfl⟩
  go_wp2_with fail
  refine (K2.out trivial _ _ H2.up2).mono ?_
  rintro e w1 ⟨rfl, H3⟩
  clear r0 r1 r2 r3 r4 r5 r6 rf c0 c1 c2 cf rl cl n1 n2
  obtain ⟨r0, r1, r2, r3, r4, r5, r6, rf⟩ := box7 (H3.at 1 rfl)
  obtain ⟨c0, c1, c2, cf⟩ := pew_cells (H3.at 2 rfl)
  have rl := lt_of_block (H3.at 1 rfl)
  have cl := lt_of_block (H3.at 2 rfl)
  obtain ⟨n1, n2⟩ := H3.ne 1 2 (by decide) rfl rfl
  go_wp2_with fail
  refine bodyPost_ret (v := .tuple #[.agg #[.bool y1, .bool y2, .bool y3, .int .i64 y4, .int .i64 zg, .int .i64 zc, .int .i64 zv], .int .i64 ye]) (by simp [results, Tryz.results158, go_sem, r0, r1, r2, r3, r4, r5, r6, rl, n1, n2]) rfl ⟨rfl, SL.tl (A := any r) ?_⟩
  have HE := H3.drop2.up1.toAny
  repeat (first | with_reducible refine SL.scr ?_ _ _ | with_reducible refine SL.allocd ?_ _ | with_reducible exact HE)
 | false =>
  go_enter Tryz.func158, Tryz.ntmps158
  go_wp2_with fail
  have H2 := (H.alloc (.cells #[.bool false, .int .i64 cc, .int .i64 cv] 154)).alloc (.cells #[.bool false, .bool false, .bool false, .int .i64 0, .int .i64 0, .int .i64 0, .int .i64 0] 227)
  rw [size_alloc] at H2
  obtain ⟨bc, hbc⟩ : ∃ b, w.heap.size = b := ⟨_, rfl⟩
  obtain ⟨r, hr⟩ : ∃ b, bc + 1 = b := ⟨_, rfl⟩
  obtain ⟨W, hW⟩ : ∃ W, (w.alloc (.cells #[.bool false, .int .i64 cc, .int .i64 cv] 154)).alloc (.cells #[.bool false, .bool false, .bool false, .int .i64 0, .int .i64 0, .int .i64 0, .int .i64 0] 227) = W := ⟨_, rfl⟩
  rw [hbc, hr, hW] at H2
  simp only [hW, hbc, hr]
  clear hbc hr hW
  obtain ⟨r0, r1, r2, r3, r4, r5, r6, rf⟩ := box7 (H2.at 0 rfl)
  obtain ⟨c0, c1, c2, cf⟩ := pew_cells (H2.at 1 rfl)
  have rl := lt_of_block (H2.at 0 rfl)
  have cl := lt_of_block (H2.at 1 rfl)
  obtain ⟨n1, n2⟩ := H2.ne 0 1 (by decide) rfl rfl
  refine (K1.out _ (H2.up3.read hB)).mono ?_
  rintro e w' ⟨rfl, rfl⟩
  go_wp2_with fail
  refine (K3.out trivial _ _ H2.up2).mono ?_
  rintro e w1 ⟨rfl, rfl, H3⟩
  clear r0 r1 r2 r3 r4 r5 r6 rf c0 c1 c2 cf rl cl n1 n2
  obtain ⟨r0, r1, r2, r3, r4, r5, r6, rf⟩ := box7 (H3.at 1 rfl)
  obtain ⟨c0, c1, c2, cf⟩ := pew_cells (H3.at 2 rfl)
  have rl := lt_of_block (H3.at 1 rfl)
  have cl := lt_of_block (H3.at 2 rfl)
  obtain ⟨n1, n2⟩ := H3.ne 1 2 (by decide) rfl rfl
  go_wp2_with fail
  refine bodyPost_ret (v := .tuple #[.agg #[.bool y1, .bool y2, .bool y3, .int .i64 y4, .int .i64 zg, .int .i64 zc, .int .i64 zv], .int .i64 0]) (by simp [results, Tryz.results158, go_sem, r0, r1, r2, r3, r4, r5, r6, rl, n1, n2]) rfl ⟨rfl, SL.tl (A := any r) ?_⟩
  have HE := H3.drop2.up1.toAny
  repeat (first | with_reducible refine SL.scr ?_ _ _ | with_reducible refine SL.allocd ?_ _ | with_reducible exact HE)
end
end Go.Proofs.YtchkaaeoffmjnaaGreatDoor
namespace Go.Proofs.YtchkaaeoffmjnaaGreatDoor
set_option linter.unusedVariables false
set_option linter.unusedSimpArgs false
open Go.RowKit
section
variable {w : World} {F : List Piece} {gs : List (Option Nat)} {M : List PipeM}
/-- The cell of a slice of pipes. -/
theorem pcs_at {a : Option Addr} {n : Nat} (h : Rd w 1 a n (pcs gs)) (k : Nat) (hk : k < gs.length) : ∃ b off, a = some ⟨b, off, none⟩ ∧ w.cell? ⟨b, off + k, none⟩ = some (adr gs[k]) := by
 have hl := h.1
 unfold pcs at hl
 rw [List.length_map] at hl
 obtain ⟨b, off, ha, hc⟩ := h.2.2 (by omega)
 exact ⟨b, off, ha, hc k _ (by unfold pcs; rw [List.getElem?_map, List.getElem?_eq_getElem hk]; rfl)⟩
theorem oks_at {k : Nat} (hk : k < gs.length) : (oks gs).getD k false = gs[k].isSome := by
 unfold oks
 rw [List.getD_eq_getElem?_getD, List.getElem?_map, List.getElem?_eq_getElem hk]
 rfl
/-- One pipe, or none, drops a goroutine. -/
theorem ps_drop {n : Nat} (hM : M.length = gs.length) (hI : AllInv n M) (g : Int) (k : Nat) (hk : k < gs.length) (H : SL w (PsP gs (leaveM g M k) :: F)) :
  Calls Tryz.prog 216 #[adr gs[k], .int .i64 g] w fun e w' => e = .returned (.int .i64 (if (oks gs).getD k false then dropN (M.getD k (emptyM 0)) g else 0)) ∧ SL w' (PsP gs (leaveM g M (k + 1)) :: F) := by
 have hkM : k < M.length := by omega
 have hat := leaveM_at g M k hkM
 rw [oks_at hk, ← leaveM_succ g M k hkM]
 rcases hg : gs[k] with _ | a
 ·refine (pipe_drop_nil g w).mono ?_
  rintro e w' ⟨rfl, f⟩
  refine ⟨rfl, ?_⟩
  have e0 : gs[k]? = some none := by rw [List.getElem?_eq_getElem hk, hg]
  unfold PsP
  rw [zip_none e0]
  exact H.later f
 ·have e0 : gs[k]? = some (some a) := by rw [List.getElem?_eq_getElem hk, hg]
  have H1 := all_take (P := PipeP) e0 hat H
  have hx : Inv9 n M[k] := hI _ (List.getElem_mem hkM)
  refine (sl_drop g hx H1).mono ?_
  rintro e w' ⟨rfl, H2⟩
  refine ⟨?_, all_put (P := PipeP) e0 hat H2⟩
  rw [List.getD_eq_getElem?_getD, List.getElem?_eq_getElem hkM]
  rfl
set_option maxRecDepth 100000 in
set_option maxHeartbeats 1000000 in
theorem f_leave {B : Piece} {b : Option Addr} {cb m n : Nat} (g : Int) (hM : M.length = gs.length) (hm : m = gs.length) (hB : Reader B 1 b m (pcs gs)) (hI : AllInv n M) (hl : gs.length ≤ 1000000) (H : SL w (PsP gs M :: B :: F)) :
  Calls Tryz.prog 197 #[.int .i64 g, .slice b m cb] w fun e w' => e = .returned (.int .i64 (leaveF (oks gs) g M).1) ∧ SL w' (PsP gs (leaveF (oks gs) g M).2 :: B :: F) := by
 subst hm
 have HM := Lib.hid hM
 have HI := Lib.hid hI
 have hbd := fun k (hk : k ≤ gs.length) => leaveN_bd (oks gs) g hI k (by omega)
 have HBD := Lib.hid hbd
 clear hM hI hbd
 go_enter Tryz.func197, Tryz.ntmps197
 go_wp2_with fail
 go_loopw [5, 9] (fun s i wr => ∃ k : Nat, k ≤ gs.length ∧ i = .int .i64 k ∧ s = .int .i64 (leaveN (oks gs) g M k) ∧ SL wr (PsP gs (leaveM g M k) :: B :: F)) (fun _ i _ => gs.length - (intOf i).toNat)
 case atStart => exact ⟨0, Nat.zero_le _, rfl, rfl, H⟩
 case round =>
  obtain ⟨k, hk, rfl, rfl, HR⟩ := hrel
  have bd := HBD.out k hk
  by_cases hlt : k < gs.length
  ·obtain ⟨b1, o1, e1, d0⟩ := pcs_at (HR.up1.read hB) k hlt
   subst e1
   have bd2 := HBD.out (k + 1) hlt
   have hs : leaveN (oks gs) g M (k + 1) = leaveN (oks gs) g M k + (if (oks gs).getD k false then dropN (M.getD k (emptyM 0)) g else 0) := rfl
   have k1 := fun (w' : World) (F' : List Piece) (H : SL w' (PsP gs (leaveM g M k) :: F')) => ps_drop HM.out HI.out g k hlt H
   obtain ⟨dn, hdn⟩ : ∃ d, (if (oks gs).getD k false then dropN (M.getD k (emptyM 0)) g else 0) = d := ⟨_, rfl⟩
   rw [hdn] at k1 hs
   obtain ⟨ls, hls⟩ : ∃ d, leaveN (oks gs) g M k = d := ⟨_, rfl⟩
   obtain ⟨ls2, hls2⟩ : ∃ d, leaveN (oks gs) g M (k + 1) = d := ⟨_, rfl⟩
   rw [hls, hls2] at hs
   rw [hls2] at bd2
   rw [hls] at bd ⊢
   unfold adr at k1 d0
   obtain ⟨q, hq⟩ : ∃ q, gs[k].map (fun g => (⟨g, 0, none⟩ : Addr)) = q := ⟨_, rfl⟩
   rw [hq] at k1 d0
   have K1 := Lib.hid k1
   have HS := Lib.hid hs
   have HL2 := Lib.hid hls2
   have b3 : 0 ≤ ls + dn := by omega
   have b4 : ls + dn ≤ 4096000000000 := by omega
   have b5 : 0 ≤ ls := by omega
   have b6 : ls ≤ 4096000000000 := by omega
   clear k1 hs hls hls2 hq hdn
   have dl : (k : Int) < (gs.length : Int) := by omega
   go_wp2_with fail
   refine (K1.out _ _ HR).mono ?_
   rintro e w1 ⟨rfl, H1⟩
   go_wp2_with fail
   go_roundw
   case rel => exact ⟨k + 1, by omega, by go_num, by rw [HL2.out, HS.out], H1⟩
   case measure => simp [intOf]; omega
  ·have hkn : k = gs.length := by omega
   have HK := Lib.hid hkn
   clear hkn
   obtain ⟨ls, hls⟩ : ∃ d, leaveN (oks gs) g M k = d := ⟨_, rfl⟩
   rw [hls] at bd ⊢
   have HLS := Lib.hid hls
   clear hls
   go_wp2_with fail
   go_ret
   have hkn := HK.out
   refine ⟨ret_int ?_, ?_⟩
   ·unfold leaveF
    rw [HM.out, ← hkn]
    exact HLS.out.symm
   ·unfold leaveF
    rw [← leaveM_all, HM.out, ← hkn]
    exact HR
end
end Go.Proofs.YtchkaaeoffmjnaaGreatDoor
namespace Go.Proofs.YtchkaaeoffmjnaaGreatDoor
set_option linter.unusedVariables false
set_option linter.unusedSimpArgs false
open Go.RowKit
section
variable {w : World} {F : List Piece} {gs : List (Option Nat)} {M : List PipeM}
theorem parkK_succ (ok : List Bool) (g : Int) (L : List CaseM) (M : List PipeM) (k : Nat) (hk : k < L.length) : parkK ok g L M (k + 1) = (match posF ok L[k].chan with
  | none => parkK ok g L M k
  | some i => ((parkK ok g L M k).1 + (if (waitF ((parkK ok g L M k).2.getD i (emptyM 0)) L[k].send ⟨g, k, L[k].value⟩).1 = 0 then 1 else 0), (parkK ok g L M k).2.set i (waitF ((parkK ok g L M k).2.getD i (emptyM 0)) L[k].send ⟨g, k, L[k].value⟩).2)) := by
 have hgd : L.getD k ⟨false, 0, 0⟩ = L[k] := by rw [List.getD_eq_getElem?_getD, List.getElem?_eq_getElem hk]; rfl
 rw [← hgd]
 rfl
theorem ps_wait {n i g : Nat} {s : Bool} {m : Wtr} (hM : M.length = gs.length) (h3 : gs[i]? = some (some g)) (hx : Inv9 n (M.getD i (emptyM 0))) (H : SL w (PsP gs M :: F)) :
  Calls Tryz.prog 160 #[.pointer (some ⟨g, 0, none⟩), .bool s, m.agg] w fun e w' => e = .returned (.int .i64 (waitF (M.getD i (emptyM 0)) s m).1) ∧ SL w' (PsP gs (M.set i (waitF (M.getD i (emptyM 0)) s m).2) :: F) := by
 refine (sl_wait s m hx.snd.1 hx.rcv.1 (take_ps hM h3 H)).mono ?_
 rintro e w' ⟨rfl, H1⟩
 exact ⟨rfl, put_ps hM h3 H1⟩
set_option maxRecDepth 100000 in
set_option maxHeartbeats 1000000 in
theorem f_park {A B : Piece} {a b : Option Addr} {ca cb n m k0 : Nat} {L : List CaseM} (g : Int) (hM : M.length = gs.length) (hn : n = L.length) (hm : m = gs.length) (hA : Reader A 3 a n (L.flatMap CaseM.cells)) (hB : Reader B 1 b m (pcs gs)) (hI : AllInv k0 M) (hL : L.length ≤ 100000) (H : SL w (PsP gs M :: A :: B :: F)) :
  Calls Tryz.prog 166 #[.int .i64 g, .slice a n ca, .slice b m cb] w fun e w' => e = .returned (.tuple #[.int .i64 (parkF (oks gs) g L M).1.1, .int .i64 (parkF (oks gs) g L M).1.2]) ∧ SL w' (PsP gs (parkF (oks gs) g L M).2 :: A :: B :: F) := by
 subst hn hm
 have hok : M.length = (oks gs).length := by unfold oks; rw [List.length_map]; exact hM
 have HP := Lib.hid (fun k => AllInv.park hI hok g L k)
 have HML := Lib.hid (fun k => (parkK_len (oks gs) g L M k).trans hM)
 have HBD := Lib.hid (fun k => parkK_bd (oks gs) g L M k)
 have KR := Lib.hid (f_ready (ca := ca) (cb := cb) hM rfl rfl hA hB hL H)
 obtain ⟨R, hR⟩ : ∃ R, parkF (oks gs) g L M = R := ⟨_, rfl⟩
 rw [hR]
 obtain ⟨⟨rn, re⟩, rM⟩ := R
 unfold parkF at hR
 clear hM hok hI
 by_cases hg : g < 0
 ·rw [if_pos (.inl hg)] at hR
  simp only [Prod.mk.injEq] at hR
  obtain ⟨⟨rfl, rfl⟩, rfl⟩ := hR
  go_enter Tryz.func166, Tryz.ntmps166
  go_wp2_with fail
  go_ret2
  exact ⟨rfl, H⟩
 ·by_cases hl : 4 < L.length
  ·rw [if_pos (.inr hl)] at hR
   simp only [Prod.mk.injEq] at hR
   obtain ⟨⟨rfl, rfl⟩, rfl⟩ := hR
   have d1 : (4 : Int) < (L.length : Int) := by omega
   have d2 : decide ((4 : Int) < (L.length : Int)) = true := by simp; omega
   go_enter Tryz.func166, Tryz.ntmps166
   go_wp2_with fail
   go_ret2
   exact ⟨rfl, H⟩
  ·rw [if_neg (by omega)] at hR
   have d1 : ¬ (4 : Int) < (L.length : Int) := by omega
   have d2 : decide ((4 : Int) < (L.length : Int)) = false := by simp; omega
   obtain ⟨nr, hnr⟩ : ∃ n, (readyL (oks gs) M L).length = n := ⟨_, rfl⟩
   rw [hnr] at hR KR
   have HNR := Lib.hid hnr
   clear hnr
   by_cases h0 : 0 < nr
   ·rw [if_pos h0] at hR
    simp only [Prod.mk.injEq] at hR
    obtain ⟨⟨rfl, rfl⟩, rfl⟩ := hR
    have q1 : decide (0 < (nr : Int)) = true := by simpa using h0
    have q2 : decide (0 < nr) = true := by simpa using h0
    go_enter Tryz.func166, Tryz.ntmps166
    go_wp2_with fail
    refine KR.out.mono ?_
    rintro e w1 ⟨v, rfl, H1⟩
    obtain ⟨va, vc, hv, hvc, hvm, _⟩ := H1.slc
    subst hv
    unfold maxLen at hvm
    go_wp2_with fail
    go_ret2
    exact ⟨rfl, H1.tl⟩
   ·rw [if_neg h0] at hR
    simp only [Prod.mk.injEq] at hR
    obtain ⟨⟨hR1, rfl⟩, hR2⟩ := hR
    have HR1 := Lib.hid hR1
    have HR2 := Lib.hid hR2
    have q1 : decide (0 < (nr : Int)) = false := by simpa using h0
    have q2 : decide (0 < nr) = false := by simpa using h0
    clear hR1 hR2
    go_enter Tryz.func166, Tryz.ntmps166
    go_wp2_with fail
    refine KR.out.mono ?_
    rintro e w1 ⟨v, rfl, H1⟩
    obtain ⟨va, vc, hv, hvc, hvm, _⟩ := H1.slc
    subst hv
    unfold maxLen at hvm
    have H1' := H1.tl
    clear H1 hvc
    go_wp2_with fail
    go_loopw [8, 26] (fun s i wr => ∃ k : Nat, k ≤ L.length ∧ i = .int .i64 k ∧ s = .int .i64 (parkK (oks gs) g L M k).1 ∧ SL wr (PsP gs (parkK (oks gs) g L M k).2 :: A :: B :: F)) (fun _ i _ => L.length - (intOf i).toNat)
    case atStart => exact ⟨0, Nat.zero_le _, rfl, rfl, H1'⟩
    case round =>
     obtain ⟨k, hk, rfl, rfl, HR⟩ := hrel
     have bd := HBD.out k
     by_cases hlt : k < L.length
     ·obtain ⟨b1, o1, e1, d3, d4, d5⟩ := case_at (HR.up1.read hA) k hlt
      subst e1
      have hs := parkK_succ (oks gs) g L M k hlt
      obtain ⟨c, hc⟩ : ∃ c, L[k] = c := ⟨_, rfl⟩
      rw [hc] at d3 d4 d5 hs
      clear hc
      obtain ⟨cs, cc, cv⟩ := c
      dsimp only at d3 d4 d5 hs
      have hPk := HP.out k
      have hMk := HML.out k
      obtain ⟨⟨nk, Mk⟩, hMM⟩ : ∃ r, parkK (oks gs) g L M k = r := ⟨_, rfl⟩
      obtain ⟨r2, hr2⟩ : ∃ r, parkK (oks gs) g L M (k + 1) = r := ⟨_, rfl⟩
      rw [hMM] at HR hs bd hPk hMk
      rw [hMM]
      rw [hr2] at hs
      dsimp only at HR hs bd hPk hMk ⊢
      have HR2' := Lib.hid hr2
      have k1 := fun (w' : World) (h : Rd w' 1 b gs.length (pcs gs)) => f_named (cap := cb) cc rfl h
      have HX := (HR.alloc (.cells #[.bool cs, .int .i64 cc, .int .i64 cv] 154)).up1
      have dl : (k : Int) < (L.length : Int) := by omega
      have dk : (0 : Int) ≤ (k : Int) := by omega
      rcases nm_pos gs cc with ⟨h1, h2⟩ | ⟨i, ga, h1, h2, h3, h4⟩
      ·rw [h1] at hs
       rw [h2] at k1
       unfold adr at k1
       dsimp only [Option.map] at k1 hs
       have K1 := Lib.hid k1
       have HS := Lib.hid hs
       clear k1 hs h1 h2 hr2 hMM hPk hMk
       go_wp2_with fail
       refine (K1.out _ (HX.up3.read hB)).mono ?_
       rintro e w' ⟨rfl, rfl⟩
       go_wp2_with fail
       go_roundw
       case rel => exact ⟨k + 1, by omega, by go_num, by rw [HR2'.out, HS.out], by rw [HR2'.out, HS.out]; exact HX.drop1⟩
       case measure => simp [intOf]; omega
      ·rw [h1] at hs
       rw [h2] at k1
       unfold adr at k1
       dsimp only [Option.map] at k1 hs
       have hi : i < Mk.length := by rw [hMk]; exact (List.getElem?_eq_some_iff.1 h3).1
       have k2 := fun (w' : World) (F' : List Piece) (H : SL w' (PsP gs Mk :: F')) => ps_wait (s := cs) (m := ⟨g, k, cv⟩) hMk h3 (hPk.get hi) H
       obtain ⟨⟨we, wy⟩, hwe⟩ : ∃ r, waitF (Mk.getD i (emptyM 0)) cs ⟨g, k, cv⟩ = r := ⟨_, rfl⟩
       rw [hwe] at k2 hs
       unfold Wtr.agg at k2
       dsimp only at k2 hs
       have K1 := Lib.hid k1
       have K2 := Lib.hid k2
       have HS := Lib.hid hs
       clear k1 k2 hs h1 h2 h3 h4 hr2 hMM hPk hMk hwe hi
       go_wp2_with fail
       refine (K1.out _ (HX.up3.read hB)).mono ?_
       rintro e w' ⟨rfl, rfl⟩
       go_wp2_with fail
       refine (K2.out _ _ HX).mono ?_
       rintro e w2 ⟨rfl, H2⟩
       by_cases hwz : we = 0
       ·have hs2 := HS.out
        rw [if_pos hwz] at hs2
        subst hwz
        have b3 : 0 ≤ nk + 1 := by omega
        have b4 : nk + 1 ≤ 4096000000000 := by omega
        have HS2 := Lib.hid hs2
        clear hs2 HS
        go_wp2_with fail
        go_roundw
        case rel => exact ⟨k + 1, by omega, by go_num, by rw [HR2'.out, HS2.out], by rw [HR2'.out, HS2.out]; exact H2.drop1⟩
        case measure => simp [intOf]; omega
       ·have hs2 := HS.out
        rw [if_neg hwz] at hs2
        have b3 : (we == 0) = false := by simpa using hwz
        have HS2 := Lib.hid hs2
        clear hs2 HS hwz
        go_wp2_with fail
        go_roundw
        case rel => exact ⟨k + 1, by omega, by go_num, by rw [HR2'.out, HS2.out, Int.add_zero], by rw [HR2'.out, HS2.out]; exact H2.drop1⟩
        case measure => simp [intOf]; omega
     ·have hkn : k = L.length := by omega
      have HK := Lib.hid hkn
      obtain ⟨nk, hnk⟩ : ∃ r, (parkK (oks gs) g L M k).1 = r := ⟨_, rfl⟩
      rw [hnk]
      have HNK := Lib.hid hnk
      clear hkn hnk
      go_wp2_with fail
      go_ret2
      have e1 : nk = rn := by rw [← HNK.out, HK.out]; exact HR1.out
      have e2 : (parkK (oks gs) g L M k).2 = rM := by rw [HK.out]; exact HR2.out
      rw [e1]
      rw [e2] at HR
      exact ⟨rfl, HR⟩
end
end Go.Proofs.YtchkaaeoffmjnaaGreatDoor
namespace Go.Proofs.YtchkaaeoffmjnaaGreatDoor
set_option linter.unusedVariables false
set_option linter.unusedSimpArgs false
open Go.RowKit
structure OpX where
 op : OpM
 ca : Option Addr
 cc : Nat
structure ProgX where
 ops : List OpX
 pa : Option Addr
 pc : Nat
def OpX.cells (o : OpX) : List Value := [.int .i64 o.op.kind, .int .i64 o.op.a, .int .i64 o.op.b, .slice o.ca o.op.cases.length o.cc, .bool o.op.dflt]
def progsM (X : List ProgX) : List (List OpM) := X.map (fun p => p.ops.map (·.op))
/-- A holds the programs X from cell off of block b on. -/
structure ScrA (A : Piece) (b off : Nat) (X : List ProgX) : Prop where
 prog : ∀ (S : Nat → Prop) (w : World), A.on S w → ∀ (k : Nat) (p : ProgX), X[k]? = some p → w.cell? ⟨b, off + k * 1, none⟩ = some (.slice p.pa p.ops.length p.pc)
 some_ : ∀ (k : Nat) (p : ProgX), X[k]? = some p → 0 < p.ops.length → ∃ b2 o2, p.pa = some ⟨b2, o2, none⟩
 op : ∀ (S : Nat → Prop) (w : World), A.on S w → ∀ (k : Nat) (p : ProgX), X[k]? = some p → ∀ b2 o2, p.pa = some ⟨b2, o2, none⟩ → ∀ (j : Nat) (o : OpX), p.ops[j]? = some o → ∀ (i : Nat) (v : Value), o.cells[i]? = some v → w.cell? ⟨b2, o2 + j * 5 + i, none⟩ = some v
 cap : ∀ (k : Nat) (p : ProgX), X[k]? = some p → p.ops.length ≤ p.pc
 case : ∀ (k : Nat) (p : ProgX), X[k]? = some p → ∀ (j : Nat) (o : OpX), p.ops[j]? = some o → Reader A 3 o.ca o.op.cases.length (o.op.cases.flatMap CaseM.cells) ∧ o.op.cases.length ≤ o.cc
/-- A holds the numbers xs from cell off of block b on. -/
def IntA (A : Piece) (b off : Nat) (xs : List Int) : Prop := ∀ (S : Nat → Prop) (w : World), A.on S w → ∀ (j : Nat) (x : Int), xs[j]? = some x → w.cell? ⟨b, off + j * 1, none⟩ = some (.int .i64 x)
section
variable {w : World} {L F : List Piece} {A : Piece} {b off : Nat} {X : List ProgX} {p : ProgX} {o : OpX} {v : Value} {K : Value → Prop} {xs : List Int} {x : Int}
theorem SL.ldP (H : SL w L) (i : Nat) (hi : L[i]? = some A) (hX : ScrA A b off X) (k : Nat) (hk : X[k]? = some p) (h : K (.slice p.pa p.ops.length p.pc)) : Ld w ⟨b, off + k * 1, none⟩ K := by
 obtain ⟨T, _, hT⟩ := SLs.at i H hi
 exact Ld.by (hX.prog T w hT k p hk) h
theorem LdC.P (i : Nat) (hi : L[i]? = some A) (hX : ScrA A b off X) (k : Nat) (hk : X[k]? = some p) (h : K (.slice p.pa p.ops.length p.pc)) : LdC (fun w => SL w L) ⟨b, off + k * 1, none⟩ K :=
 LdC.by (fun w H => by
  obtain ⟨T, _, hT⟩ := SLs.at i H hi
  exact hX.prog T w hT k p hk) h
theorem SL.ldO {b2 o2 : Nat} (H : SL w L) (n : Nat) (hi : L[n]? = some A) (hX : ScrA A b off X) (k : Nat) (hk : X[k]? = some p) (hp : p.pa = some ⟨b2, o2, none⟩) (j i : Nat) (hj : p.ops[j]? = some o) (hv : o.cells[i]? = some v) (h : K v) : Ld w ⟨b2, o2 + j * 5 + i, none⟩ K := by
 obtain ⟨T, _, hT⟩ := SLs.at n H hi
 exact Ld.by (hX.op T w hT k p hk b2 o2 hp j o hj i v hv) h
theorem LdC.O {b2 o2 : Nat} (n : Nat) (hi : L[n]? = some A) (hX : ScrA A b off X) (k : Nat) (hk : X[k]? = some p) (hp : p.pa = some ⟨b2, o2, none⟩) (j i : Nat) (hj : p.ops[j]? = some o) (hv : o.cells[i]? = some v) (h : K v) : LdC (fun w => SL w L) ⟨b2, o2 + j * 5 + i, none⟩ K :=
 LdC.by (fun w H => by
  obtain ⟨T, _, hT⟩ := SLs.at n H hi
  exact hX.op T w hT k p hk b2 o2 hp j o hj i v hv) h
theorem LdC.I (i : Nat) (hi : L[i]? = some A) (hX : IntA A b off xs) (j : Nat) (hj : xs[j]? = some x) (h : K (.int .i64 x)) : LdC (fun w => SL w L) ⟨b, off + j * 1, none⟩ K :=
 LdC.by (fun w H => by
  obtain ⟨T, _, hT⟩ := SLs.at i H hi
  exact hX T w hT j x hj) h
end
def OnesP (tc te c : Nat) (L : List One) : Piece := ofAt (fun w S => OnesAt tc te w S c L) OnesAt.move OnesAt.mono
abbrev CrewP (c : Nat) (L : List One) : Piece := OnesP 168 170 c L
abbrev RCrewP (c : Nat) (L : List One) : Piece := OnesP 189 249 c L
section
variable {P : Program} {w : World} {F L : List Piece} {A B : Piece} {f : FuncId} {args : Array Value} {r : Value}
/-- A call that leaves all alone. -/
theorem SL.quiet (H : SL w L) (h : Calls P f args w fun e w' => e = .returned r ∧ Frm Nil w w') : Calls P f args w fun e w' => e = .returned r ∧ SL w' L :=
 h.mono fun e w' q => ⟨q.1, H.later q.2⟩
end
section
variable {w : World} {F : List Piece} {c : Nat} {L : List One} {g pr : Int}
theorem OnesP.at {tc te : Nat} (H : SL w (OnesP tc te c L :: F)) : ∃ S, OnesAt tc te w S c L := by
 obtain ⟨S, _, h⟩ := H.on
 exact ⟨S, h⟩
theorem crew_sl {f : FuncId} {args : Array Value} {r : Value} {L' : List One} (h : ∀ S, CrewAt w S c L → Calls Tryz.prog f args w (CrewPost S c w r L')) (H : SL w (CrewP c L :: F)) : Calls Tryz.prog f args w fun e w' => e = .returned r ∧ SL w' (CrewP c L' :: F) := by
 obtain ⟨S, h1, h2, h3⟩ := H.call
 refine (h S h1).mono ?_
 rintro e w' ⟨q1, q2, q3⟩
 exact ⟨q1, h3 w' [CrewP c L'] q3 ⟨_, fun _ h => h, q2, trivial⟩⟩
theorem p_over (hL : L.length ≤ 512) (H : SL w (CrewP c L :: F)) : Calls Tryz.prog 50 #[.pointer (some ⟨c, 0, none⟩)] w fun e w' => e = .returned (.int .i64 (overF L)) ∧ SL w' (CrewP c L :: F) := by
 obtain ⟨S, h⟩ := OnesP.at H
 exact H.quiet (crew_over h hL)
theorem p_go (hp : Small L 100000000) (g : Int) (H : SL w (CrewP c L :: F)) : Calls Tryz.prog 114 #[.pointer (some ⟨c, 0, none⟩), .int .i64 g] w fun e w' => e = .returned (.int .i64 (turnF L g 0 0 1).1) ∧ SL w' (CrewP c (turnF L g 0 0 1).2 :: F) := crew_sl (fun S h => crew_go h hp g) H
theorem p_park (hp : Small L 100000000) (g : Int) (H : SL w (CrewP c L :: F)) : Calls Tryz.prog 161 #[.pointer (some ⟨c, 0, none⟩), .int .i64 g] w fun e w' => e = .returned (.int .i64 (turnF L g 0 1 0).1) ∧ SL w' (CrewP c (turnF L g 0 1 0).2 :: F) := crew_sl (fun S h => crew_park h hp g) H
theorem p_wake (hp : Small L 100000000) (g : Int) (H : SL w (CrewP c L :: F)) : Calls Tryz.prog 198 #[.pointer (some ⟨c, 0, none⟩), .int .i64 g] w fun e w' => e = .returned (.int .i64 (turnF L g 1 0 1).1) ∧ SL w' (CrewP c (turnF L g 1 0 1).2 :: F) := crew_sl (fun S h => crew_wake h hp g) H
theorem p_exit (hp : Small L 100000000) (g : Int) (H : SL w (CrewP c L :: F)) : Calls Tryz.prog 113 #[.pointer (some ⟨c, 0, none⟩), .int .i64 g] w fun e w' => e = .returned (.int .i64 (turnF L g 0 2 0).1) ∧ SL w' (CrewP c (turnF L g 0 2 0).2 :: F) := crew_sl (fun S h => crew_exit h hp g) H
theorem p_spawn (hL : L.length ≤ 512) (pr : Int) (H : SL w (CrewP c L :: F)) : Calls Tryz.prog 49 #[.pointer (some ⟨c, 0, none⟩), .int .i64 pr] w fun e w' => e = .returned (.tuple #[.int .i64 (spawnF L pr).1.1, .int .i64 (spawnF L pr).1.2]) ∧ SL w' (CrewP c (spawnF L pr).2 :: F) :=
 crew_sl (fun S h => crew_spawn h hL pr) H
end
end Go.Proofs.YtchkaaeoffmjnaaGreatDoor
namespace Go.Proofs.YtchkaaeoffmjnaaGreatDoor
set_option linter.unusedVariables false
set_option linter.unusedSimpArgs false
open Go.RowKit
section
variable {w : World} {F : List Piece} {c : Nat} {L : List One} {g pr : Int}
end
def rlCells (t m : Int) (vp vl vd : Value) (hb crb : Nat) (chv : Value) (name : List Int) (tv : Value) (pan : Bool) : Array Value :=
 ([.int .i64 t, .int .i64 m, vp, vl, vd, .pointer (some ⟨hb, 0, none⟩), .pointer (some ⟨crb, 0, none⟩), chv] ++ (ints name ++ [tv, .bool pan])).toArray
/-- The script as the looms hold it. -/
structure ScrV where
 t : Int
 m : Int
 vp : Value
 vl : Value
 vd : Value
def RlP (lb : Nat) (s : ScrV) (x : LmM) : Piece := exP fun (y : Nat × Nat × Value × Value × List Nat) => andP (y.2.2.2.2.length = x.M.length ∧ x.name.length = 8)
 (all [row lb (rlCells s.t s.m s.vp s.vl s.vd y.1 y.2.1 y.2.2.1 x.name y.2.2.2.1 x.pan) 133, row y.1 #[s.vl, s.vd, .int .i64 (x.p : Int), .int .i64 (x.d : Int)] 194, RCrewP y.2.1 x.crew,
  Slc 250 1 y.2.2.1 y.2.2.2.2.length (pcs (y.2.2.2.2.map some)), RsP (y.2.2.2.2.map some) x.M, Slc 53 8 y.2.2.2.1 x.tr.length (x.tr.flatMap Ev.cells)])
theorem RlP.iff {w : World} {F : List Piece} {lb : Nat} {s : ScrV} {x : LmM} : SL w (RlP lb s x :: F) ↔ ∃ (hb crb : Nat) (chv tv : Value) (ps : List Nat), (ps.length = x.M.length ∧ x.name.length = 8) ∧
  SL w (row lb (rlCells s.t s.m s.vp s.vl s.vd hb crb chv x.name tv x.pan) 133 :: row hb #[s.vl, s.vd, .int .i64 (x.p : Int), .int .i64 (x.d : Int)] 194 :: RCrewP crb x.crew ::
   Slc 250 1 chv ps.length (pcs (ps.map some)) :: RsP (ps.map some) x.M :: Slc 53 8 tv x.tr.length (x.tr.flatMap Ev.cells) :: F) := by
 constructor
 ·intro h
  obtain ⟨⟨hb, crb, chv, tv, ps⟩, h⟩ := SL.exP.1 h
  obtain ⟨h1, h⟩ := SL.andP.1 h
  exact ⟨hb, crb, chv, tv, ps, h1, SL.all.1 h⟩
 ·rintro ⟨hb, crb, chv, tv, ps, h1, h⟩
  exact SL.exP.2 ⟨(hb, crb, chv, tv, ps), SL.andP.2 ⟨h1, SL.all.2 h⟩⟩
theorem eight {l : List Int} (h : l.length = 8) : ∃ n0 n1 n2 n3 n4 n5 n6 n7, l = [n0, n1, n2, n3, n4, n5, n6, n7] := by
 match l, h with
 | [n0, n1, n2, n3, n4, n5, n6, n7], _ => exact ⟨_, _, _, _, _, _, _, _, rfl⟩
end Go.Proofs.YtchkaaeoffmjnaaGreatDoor
namespace Go.Proofs.YtchkaaeoffmjnaaGreatDoor
set_option linter.unusedVariables false
set_option linter.unusedSimpArgs false
open Go.RowKit
set_option maxRecDepth 100000
theorem p_bare {w : World} {F : List Piece} (H : SL w F) (k g : Int) : Calls Tryz.prog 55 #[.int .i64 k, .int .i64 g] w fun o w' => o = .returned (bareE k g).agg ∧ SL w' F := by
 refine calls_den (args := [_, _]) Tryz.func55 rfl (Nat.le_of_ble_eq_true (by kernel_rfl)) (by kernel_rfl) ?_
 refine ⟨?_⟩
 refine Nw.as #[.int .i64 0, .int .i64 0, .int .i64 0, .int .i64 0, .int .i64 0, .int .i64 0, .bool false, .bool false] 53 rfl H fun b4 w H => ?_
 refine ⟨?_⟩
 refine Mn.pure (.agg #[.int .i64 k, .int .i64 g, .int .i64 (-1), .int .i64 (-1), .int .i64 (-1), .int .i64 (-1), .bool false, .bool false]) (by kernel_rfl) ?_
 refine H.st0 (cs' := #[.int .i64 k, .int .i64 0, .int .i64 0, .int .i64 0, .int .i64 0, .int .i64 0, .bool false, .bool false]) rfl rfl rfl fun w H => ?_
 refine H.st0 (cs' := #[.int .i64 k, .int .i64 g, .int .i64 0, .int .i64 0, .int .i64 0, .int .i64 0, .bool false, .bool false]) rfl rfl rfl fun w H => ?_
 refine H.st0 (cs' := #[.int .i64 k, .int .i64 g, .int .i64 (-1), .int .i64 0, .int .i64 0, .int .i64 0, .bool false, .bool false]) rfl rfl rfl fun w H => ?_
 refine H.st0 (cs' := #[.int .i64 k, .int .i64 g, .int .i64 (-1), .int .i64 (-1), .int .i64 0, .int .i64 0, .bool false, .bool false]) rfl rfl rfl fun w H => ?_
 refine H.st0 (cs' := #[.int .i64 k, .int .i64 g, .int .i64 (-1), .int .i64 (-1), .int .i64 (-1), .int .i64 0, .bool false, .bool false]) rfl rfl rfl fun w H => ?_
 refine H.st0 (cs' := #[.int .i64 k, .int .i64 g, .int .i64 (-1), .int .i64 (-1), .int .i64 (-1), .int .i64 (-1), .bool false, .bool false]) rfl rfl rfl fun w H => ?_
 refine H.st0 (cs' := #[.int .i64 k, .int .i64 g, .int .i64 (-1), .int .i64 (-1), .int .i64 (-1), .int .i64 (-1), .bool false, .bool false]) rfl rfl rfl fun w H => ?_
 refine H.st0 (cs' := #[.int .i64 k, .int .i64 g, .int .i64 (-1), .int .i64 (-1), .int .i64 (-1), .int .i64 (-1), .bool false, .bool false]) rfl rfl rfl fun w H => ?_
 refine retC (fn := Tryz.f55) H 0 rfl rfl (by rfl) (by kernel_rfl) (by kernel_rfl) ?_
 exact ⟨rfl, H.tl⟩
end Go.Proofs.YtchkaaeoffmjnaaGreatDoor
namespace Go.Proofs.YtchkaaeoffmjnaaGreatDoor
set_option linter.unusedVariables false
set_option linter.unusedSimpArgs false
/-- Waiters that are goroutines. -/
def WtIn (n : Nat) (M : List PipeM) : Prop := ∀ y ∈ M, ∀ a, a ∈ y.senders ∨ a ∈ y.receivers → 0 ≤ a.g ∧ a.g < (n : Int)
structure Lk (np k : Nat) (x : LmM) : Prop where
 nm : NamesOk x.name x.M.length
 n8 : x.name.length = 8
 inv : AllInv k x.M
 sm : Small x.crew k
 cl : x.crew.length ≤ 512
 pr : ∀ o ∈ x.crew, 0 ≤ o.program ∧ o.program < (np : Int)
 tr : x.tr.length ≤ k
 wt : WtIn x.crew.length x.M
 ml : x.M.length ≤ k
structure OpOk (np : Nat) (o : OpM) : Prop where
 k0 : 1 ≤ o.kind
 k1 : o.kind ≤ 9
 a0 : 0 ≤ o.a
 a1 : o.a < 8
 pr : o.kind = 1 → o.a < (np : Int)
 b0 : 0 ≤ o.b
 b1 : o.b ≤ 99
 cap : o.kind = 2 → o.b ≤ 4
 bz : o.kind = 4 → o.b = 0
 cl : o.cases.length ≤ 4
 ch : ∀ c ∈ o.cases, 0 ≤ c.chan ∧ c.chan < 8
def ProgsOk (ps : List (List OpM)) : Prop := ∀ p ∈ ps, ∀ o ∈ p, OpOk ps.length o
theorem exitOk (np : Nat) (h : 1 ≤ np) : OpOk np exitOp := ⟨by decide, by decide, by decide, by decide, fun h => absurd h (by decide), by decide, by decide, fun h => absurd h (by decide), fun h => absurd h (by decide), by decide, fun c hc => absurd hc (by simp [exitOp])⟩
theorem opL_ok {s : ScrM} (hs : ProgsOk s.progs) (h1 : 1 ≤ s.progs.length) (x : LmM) (g : Int) : OpOk s.progs.length (opL s x g) := by
 unfold opL
 split
 ·exact exitOk _ h1
 ·split
  ·exact exitOk _ h1
  ·rename_i p hp
   split
   ·exact exitOk _ h1
   ·rw [List.getD_eq_getElem?_getD]
    cases ho : p[(_ : One).place.toNat]? with
    | none => exact exitOk _ h1
    | some o => exact hs p (List.mem_of_getElem? hp) o (List.mem_of_getElem? ho)
theorem Small.more {L : List One} {a b : Int} (h : Small L a) (hb : a ≤ b) : Small L b := fun x hx => ⟨(h x hx).1, by have := (h x hx).2; omega⟩
theorem turn_len (L : List One) (g fr to by_ : Int) : (turnF L g fr to by_).2.length = L.length := by
 unfold turnF
 split
 ·split
  ·rfl
  ·split
   ·rw [List.length_set]
   ·rfl
 ·rfl
theorem turn_mem {L : List One} {g fr to by_ : Int} {o : One} (h : o ∈ (turnF L g fr to by_).2) : o ∈ L ∨ ∃ z ∈ L, o = ⟨z.program, z.place + by_, to⟩ := by
 unfold turnF at h
 split at h
 ·split at h
  ·exact .inl h
  ·rename_i z hz
   split at h
   ·rcases List.mem_or_eq_of_mem_set h with h | h
    ·exact .inl h
    ·exact .inr ⟨z, List.mem_of_getElem? hz, h⟩
   ·exact .inl h
 ·exact .inl h
theorem byOf_01 (fr to : Int) : 0 ≤ byOf fr to ∧ byOf fr to ≤ 1 := by
 unfold byOf
 split <;> omega
namespace Lk
variable {np k j : Nat} {x : LmM}
theorem more (h : Lk np k x) (hk : k ≤ j) : Lk np j x := { h with inv := h.inv.more hk, sm := h.sm.more (by omega), tr := by have := h.tr; omega, ml := by have := h.ml; omega }
theorem note (h : Lk np k x) (e : Ev) : Lk np (k + 1) (noteL x e) := { h.more (Nat.le_succ k) with tr := by show (x.tr ++ [e]).length ≤ k + 1; have := h.tr; simp; omega }
theorem turn (h : Lk np k x) (g fr to : Int) : Lk np (k + 1) (turnL x g fr to) := by
 have hb := byOf_01 fr to
 refine { h.more (Nat.le_succ k) with sm := ?_, cl := ?_, pr := ?_, wt := ?_ }
 ·intro o ho
  rcases turn_mem ho with ho | ⟨z, hz, rfl⟩
  ·have := h.sm o ho
   omega
  ·have := h.sm z hz
   dsimp only
   omega
 ·show (turnF x.crew g fr to (byOf fr to)).2.length ≤ 512
  rw [turn_len]
  exact h.cl
 ·intro o ho
  rcases turn_mem ho with ho | ⟨z, hz, rfl⟩
  ·exact h.pr o ho
  ·exact h.pr z hz
 ·show WtIn (turnF x.crew g fr to (byOf fr to)).2.length x.M
  rw [turn_len]
  exact h.wt
theorem setM (h : Lk np k x) {M : List PipeM} (hl : M.length = x.M.length) (hi : AllInv j M) (hw : WtIn x.crew.length M) : Lk np (max k j) { x with M := M } :=
 { h.more (Nat.le_max_left k j) with nm := by show NamesOk x.name M.length; rw [hl]; exact h.nm, inv := hi.more (Nat.le_max_right k j), wt := hw, ml := by show M.length ≤ max k j; rw [hl]; exact Nat.le_trans h.ml (Nat.le_max_left k j) }
theorem pan (h : Lk np k x) (b : Bool) : Lk np k { x with pan := b } := { h with }
theorem pp (h : Lk np k x) (p : Nat) : Lk np k { x with p := p } := { h with }
theorem dd (h : Lk np k x) (d : Nat) : Lk np k { x with d := d } := { h with }
theorem panic (h : Lk np k x) (g : Int) : Lk np (k + 1) (panicL x g) := { h.note (bareE 12 g) with }
theorem drop (h : Lk np k x) (g : Int) : Lk np k { x with M := x.M.map (fun y => dropM y g) } := by
 refine { h with nm := ?_, inv := h.inv.leave g, wt := ?_, ml := by show (x.M.map (fun y => dropM y g)).length ≤ k; rw [List.length_map]; exact h.ml }
 ·show NamesOk x.name (x.M.map (fun y => dropM y g)).length
  rw [List.length_map]
  exact h.nm
 ·intro y hy a ha
  obtain ⟨z, hz, rfl⟩ := List.mem_map.1 hy
  exact h.wt z hz a (ha.imp (fun h => (List.mem_filter.1 h).1) (fun h => (List.mem_filter.1 h).1))
theorem wake (h : Lk np k x) (e : Ev) : Lk np (k + 1) (wakeL x e) := by
 have h1 := (h.drop e.g).turn e.g 1 0
 exact { h1 with tr := by show (x.tr ++ [e]).length ≤ k + 1; have := h.tr; simp; omega }
theorem wakes (h : Lk np k x) (g ch : Int) : ∀ (ws : List Wtr), Lk np (k + ws.length) (wakesL x g ch ws) := by
 intro ws
 induction ws generalizing x k with
 | nil => exact h
 | cons w ws ih =>
  unfold wakesL
  rw [List.length_cons]
  split
  ·exact (ih (h.wake _)).more (by omega)
  ·exact (ih h).more (by omega)
theorem sends (h : Lk np k x) : ∀ (ws : List Wtr), Lk np (k + 1) (sendersL x ws) := by
 intro ws
 induction ws with
 | nil => exact h.more (by omega)
 | cons w ws ih =>
  unfold sendersL
  split
  ·exact h.panic _
  ·exact ih
theorem ok_len (h : Lk np k x) : (okN x).length = 8 := by unfold okN; rw [List.length_map]; exact h.n8
theorem pipes_len (h : Lk np k x) : (pipesN x).length = 8 := by unfold pipesN; rw [List.length_map]; exact h.n8
end Lk
theorem pipesN_eq (x : LmM) : pipesN x = msN x.name x.M := rfl
theorem AllInv.named {k : Nat} {name : List Int} {M : List PipeM} (h : AllInv k M) : AllInv k (msN name M) := by
 intro y hy
 unfold msN at hy
 obtain ⟨n, _, rfl⟩ := List.mem_map.1 hy
 split
 ·rw [List.getD_eq_getElem?_getD]
  cases hm : M[n.toNat]? with
  | none => exact (Inv9.empty (by decide)).more (Nat.zero_le _)
  | some z => exact h z (List.mem_of_getElem? hm)
 ·exact (Inv9.empty (by decide)).more (Nat.zero_le _)
theorem WtIn.named {n : Nat} {name : List Int} {M : List PipeM} (h : WtIn n M) : WtIn n (msN name M) := by
 intro y hy
 unfold msN at hy
 obtain ⟨m, _, rfl⟩ := List.mem_map.1 hy
 have he : ∀ a, a ∈ (emptyM 0).senders ∨ a ∈ (emptyM 0).receivers → 0 ≤ a.g ∧ a.g < (n : Int) := fun a ha => by simp [emptyM] at ha
 split
 ·rw [List.getD_eq_getElem?_getD]
  cases hm : M[m.toNat]? with
  | none => exact he
  | some z => exact h z (List.mem_of_getElem? hm)
 ·exact he
theorem backN_len (name : List Int) (ys M : List PipeM) : (backN name ys M).length = M.length := by rw [← putN_back, putN_len]
theorem backN_mem : ∀ (name : List Int) (ys M : List PipeM) {y : PipeM}, y ∈ backN name ys M → y ∈ ys ∨ y ∈ M
 | [], _, _, y, h => by unfold backN at h; exact .inr h
 | n :: ns, [], M, y, h => by unfold backN at h; exact .inr h
 | n :: ns, z :: ys, M, y, h => by
  unfold backN at h
  rcases backN_mem ns ys _ h with h | h
  ·exact .inl (List.mem_cons_of_mem _ h)
  ·split at h
   ·rcases List.mem_or_eq_of_mem_set h with h | h
    ·exact .inr h
    ·exact .inl (h ▸ List.mem_cons_self)
   ·exact .inr h
theorem list_set_same {α : Type} (l : List α) (i : Nat) (d : α) : l.set i (l.getD i d) = l := by
 by_cases h : i < l.length
 ·rw [List.getD_eq_getElem?_getD, List.getElem?_eq_getElem h]
  exact List.set_getElem_self h
 ·exact List.set_eq_of_length_le (by omega)
theorem backN_self : ∀ (ns : List Int) (M : List PipeM), backN ns (msN ns M) M = M
 | [], M => by simp [msN, backN]
 | n :: ns, M => by
  show backN ns (msN ns M) (if 0 ≤ n then M.set n.toNat (if 0 ≤ n then M.getD n.toNat (emptyM 0) else emptyM 0) else M) = M
  by_cases h : 0 ≤ n
  ·rw [if_pos h, if_pos h, list_set_same]
   exact backN_self ns M
  ·rw [if_neg h]
   exact backN_self ns M
theorem backN_same {name : List Int} {M : List PipeM} {k : Nat} (h : NamesOk name k) : backN name (msN name M) M = M := backN_self name M
theorem Lk.back {np k j : Nat} {x : LmM} (h : Lk np k x) {ys : List PipeM} (hi : AllInv j ys) (hw : WtIn x.crew.length ys) (hk : k ≤ j) : Lk np j { x with M := backN x.name ys x.M } := by
 have := h.setM (M := backN x.name ys x.M) (j := j) (backN_len _ _ _) (fun y hy => (backN_mem _ _ _ hy).elim (fun h => hi y h) (fun hm => (h.inv y hm).more hk)) (fun y hy => (backN_mem _ _ _ hy).elim (fun h => hw y h) (fun hm => h.wt y hm))
 rwa [Nat.max_eq_right hk] at this
theorem WtIn.set {n : Nat} {M : List PipeM} (h : WtIn n M) {i : Nat} {y : PipeM} (hy : ∀ a, a ∈ y.senders ∨ a ∈ y.receivers → (a ∈ (M.getD i (emptyM 0)).senders ∨ a ∈ (M.getD i (emptyM 0)).receivers) ∨ (0 ≤ a.g ∧ a.g < (n : Int))) : WtIn n (M.set i y) := by
 intro z hz a ha
 rcases List.mem_or_eq_of_mem_set hz with hz | rfl
 ·exact h z hz a ha
 ·rcases hy a ha with hh | hh
  ·rw [List.getD_eq_getElem?_getD] at hh
   cases hm : M[i]? with
   | none => rw [hm] at hh; simp [emptyM] at hh
   | some u => rw [hm] at hh; exact h u (List.mem_of_getElem? hm) a hh
  ·exact hh
theorem send_wt (x : PipeM) (v : Int) (a : Wtr) (h : a ∈ (sendF x v).2.senders ∨ a ∈ (sendF x v).2.receivers) : a ∈ x.senders ∨ a ∈ x.receivers := by
 unfold sendF at h
 split at h
 ·exact h
 ·split at h
  ·rename_i m l hr
   rw [hr]
   exact h.imp id (fun h => List.mem_cons_of_mem _ h)
  ·split at h <;> exact h
theorem recv_wt (x : PipeM) (a : Wtr) (h : a ∈ (recvF x).2.senders ∨ a ∈ (recvF x).2.receivers) : a ∈ x.senders ∨ a ∈ x.receivers := by
 unfold recvF at h
 split at h
 ·rename_i m l _ hr
  rw [hr]
  exact h.imp (fun h => List.mem_cons_of_mem _ h) id
 ·exact h
 ·rename_i m l _ hr
  rw [hr]
  exact h.imp (fun h => List.mem_cons_of_mem _ h) id
 ·split at h <;> exact h
theorem wait_wt (x : PipeM) (s : Bool) (m a : Wtr) (h : a ∈ (waitF x s m).2.senders ∨ a ∈ (waitF x s m).2.receivers) : (a ∈ x.senders ∨ a ∈ x.receivers) ∨ a = m := by
 have hadd : ∀ (L : List Wtr), a ∈ (addF L m).2 → a ∈ L ∨ a = m := by
  intro L hL
  unfold addF at hL
  split at hL
  ·exact .inl hL
  ·split at hL
   ·exact .inl hL
   ·exact (List.mem_append.1 hL).imp id (fun h => by simpa using h)
 unfold waitF at h
 split at h
 ·exact .inl h
 ·split at h
  ·rcases h with h | h
   ·exact (hadd _ h).imp .inl id
   ·exact .inl (.inr h)
  ·rcases h with h | h
   ·exact .inl (.inl h)
   ·exact (hadd _ h).imp .inr id
theorem WtIn.try {n : Nat} {M : List PipeM} (h : WtIn n M) (ok : List Bool) (c : CaseM) : WtIn n (tryF ok M c).2 := by
 unfold tryF
 split
 ·exact h
 ·split
  ·exact h.set (fun a ha => .inl (send_wt _ _ _ ha))
  ·exact h.set (fun a ha => .inl (recv_wt _ _ ha))
theorem WtIn.park {n : Nat} {M : List PipeM} (h : WtIn n M) (ok : List Bool) {g : Int} (hg : 0 ≤ g ∧ g < (n : Int)) (L : List CaseM) : ∀ k, WtIn n (parkK ok g L M k).2
 | 0 => h
 | k + 1 => by
  have ih := WtIn.park h ok hg L k
  unfold parkK
  split
  ·exact ih
  ·exact ih.set (fun a ha => (wait_wt _ _ _ _ ha).imp id (fun e => by rw [e]; exact hg))
theorem WtIn.parkF {n : Nat} {M : List PipeM} (h : WtIn n M) (ok : List Bool) {g : Int} (hg : 0 ≤ g ∧ g < (n : Int)) (L : List CaseM) : WtIn n (parkF ok g L M).2 := by
 unfold Go.Proofs.YtchkaaeoffmjnaaGreatDoor.parkF
 split
 ·exact h
 ·split
  ·exact h
  ·exact h.park ok hg L _
theorem ableF_in (L : List One) : ∀ k, ∀ g ∈ inF L 0 k, 0 ≤ g ∧ g < (k : Int)
 | 0, g, h => by simp [inF] at h
 | k + 1, g, h => by
  unfold inF at h
  rcases List.mem_append.1 h with h | h
  ·have := ableF_in L k g h
   omega
  ·split at h
   ·simp at h
   ·split at h
    ·simp at h
     omega
    ·simp at h
end Go.Proofs.YtchkaaeoffmjnaaGreatDoor
namespace Go.Proofs.YtchkaaeoffmjnaaGreatDoor
set_option linter.unusedVariables false
set_option linter.unusedSimpArgs false
open Go.RowKit
section
variable {w : World} {F : List Piece} {lb : Nat} {x : LmM} {n0 n1 n2 n3 n4 n5 n6 n7 : Int} {t m : Int} {vp vl vd : Value}
end
theorem numL_get {x : LmM} {j : Nat} (hj : j < x.name.length) : numL x (j : Int) = x.name[j] := by
 unfold numL
 rw [Int.toNat_natCast, List.getD_eq_getElem?_getD, List.getElem?_eq_getElem hj]
 rfl
section
variable {np k : Nat} {x : LmM} {ps : List Nat}
theorem Lk.nps (hk : Lk np k x) (hl : ps.length = x.M.length) : NamesOk x.name ps.length := by rw [hl]; exact hk.nm
theorem okN_eq (hk : Lk np k x) (hl : ps.length = x.M.length) : oks (gsN x.name ps) = okN x := okN_gs (hk.nps hl)
theorem gsN_at (hk : Lk np k x) {j : Nat} (hj : j < 8) : (gsN x.name ps)[j]? = some (if 0 ≤ numL x (j : Int) then ps[(numL x (j : Int)).toNat]? else none) := by
 have hj' : j < x.name.length := by rw [hk.n8]; exact hj
 unfold gsN
 rw [List.getElem?_map, List.getElem?_eq_getElem hj', numL_get hj']
 rfl
theorem msN_at (hk : Lk np k x) {j : Nat} (hj : j < 8) : (msN x.name x.M)[j]? = some (if 0 ≤ numL x (j : Int) then x.M.getD (numL x (j : Int)).toNat (emptyM 0) else emptyM 0) := by
 have hj' : j < x.name.length := by rw [hk.n8]; exact hj
 unfold msN
 rw [List.getElem?_map, List.getElem?_eq_getElem hj', numL_get hj']
 rfl
theorem num_lt (hk : Lk np k x) {j : Nat} (hj : j < 8) : numL x (j : Int) < (x.M.length : Int) := by
 have hj' : j < x.name.length := by rw [hk.n8]; exact hj
 rw [numL_get hj']
 exact hk.nm.lt _ (List.getElem_mem hj')
/-- A name is nil, or of a channel. -/
theorem num_or (hk : Lk np k x) (hl : ps.length = x.M.length) {j : Nat} (hj : j < 8) : (numL x (j : Int) < 0 ∧ nm (gsN x.name ps) j = none) ∨ ∃ i g : Nat, numL x (j : Int) = (i : Int) ∧ i < x.M.length ∧ (ps.map some)[i]? = some (some g) ∧ nm (gsN x.name ps) j = some g := by
 have h1 := gsN_at (ps := ps) hk hj
 have h2 := num_lt hk hj
 have h8 : (gsN x.name ps).length = 8 := by rw [gsN_len, hk.n8]
 have hnm : nm (gsN x.name ps) j = if 0 ≤ numL x (j : Int) then ps[(numL x (j : Int)).toNat]? else none := by
  unfold nm
  rw [if_pos (by omega), Int.toNat_natCast, List.getD_eq_getElem?_getD, h1]
  rfl
 by_cases h0 : 0 ≤ numL x (j : Int)
 ·obtain ⟨i, hi⟩ := Int.eq_ofNat_of_zero_le h0
  rw [hi] at h2 hnm
  have hip : i < ps.length := by omega
  refine .inr ⟨i, ps[i], hi, by omega, by rw [List.getElem?_map, List.getElem?_eq_getElem hip]; rfl, ?_⟩
  rw [hnm, if_pos (by omega), Int.toNat_natCast, List.getElem?_eq_getElem hip]
 ·rw [if_neg h0] at hnm
  exact .inl ⟨by omega, hnm⟩
theorem posF_num (hk : Lk np k x) {j : Nat} (hj : j < 8) : posF (okN x) (j : Int) = if 0 ≤ numL x (j : Int) then some j else none := by
 have hj' : j < x.name.length := by rw [hk.n8]; exact hj
 have ho : (okN x).getD j false = decide (0 ≤ numL x (j : Int)) := by
  unfold okN
  rw [List.getD_eq_getElem?_getD, List.getElem?_map, List.getElem?_eq_getElem hj', numL_get hj']
  rfl
 have h8 := hk.ok_len
 unfold posF
 rw [Int.toNat_natCast, ho]
 by_cases h0 : 0 ≤ numL x (j : Int)
 ·rw [if_pos h0, if_pos ⟨by omega, by omega, by simp [h0]⟩]
 ·rw [if_neg h0, if_neg (fun h => h0 (of_decide_eq_true h.2.2))]
theorem pipesN_at (hk : Lk np k x) {j : Nat} (hj : j < 8) : (pipesN x).getD j (emptyM 0) = if 0 ≤ numL x (j : Int) then x.M.getD (numL x (j : Int)).toNat (emptyM 0) else emptyM 0 := by
 rw [List.getD_eq_getElem?_getD, pipesN_eq, msN_at hk hj]
 rfl
/-- Is a case ready? -/
theorem readyC_num (hk : Lk np k x) {j : Nat} (hj : j < 8) (s : Bool) (v : Int) : readyC (okN x) (pipesN x) ⟨s, j, v⟩ = if 0 ≤ numL x (j : Int) then readyF (x.M.getD (numL x (j : Int)).toNat (emptyM 0)) s else false := by
 unfold readyC
 dsimp only
 rw [posF_num hk hj]
 by_cases h0 : 0 ≤ numL x (j : Int)
 ·rw [if_pos h0, if_pos h0]
  dsimp only
  rw [pipesN_at hk hj, if_pos h0]
 ·rw [if_neg h0, if_neg h0]
end
section
variable {np k : Nat} {x : LmM} {ps : List Nat} {w : World} {F : List Piece} {A B : Piece} {a b : Option Addr} {ca cb : Nat}
end
end Go.Proofs.YtchkaaeoffmjnaaGreatDoor
namespace Go.Proofs.YtchkaaeoffmjnaaGreatDoor
set_option linter.unusedVariables false
set_option linter.unusedSimpArgs false
open Go.RowKit
set_option maxRecDepth 100000
end Go.Proofs.YtchkaaeoffmjnaaGreatDoor
namespace Go.Proofs.YtchkaaeoffmjnaaGreatDoor
set_option linter.unusedVariables false
set_option linter.unusedSimpArgs false
open Go.RowKit
set_option maxRecDepth 100000
theorem Lk.tried {np k : Nat} {x : LmM} (hk : Lk np k x) (c : CaseM) : Lk np (k + 1) { x with M := backN x.name (tryF (okN x) (pipesN x) c).2 x.M } :=
 hk.back (AllInv.try (M := pipesN x) hk.inv.named (by rw [hk.pipes_len, hk.ok_len]) c) (WtIn.try (M := pipesN x) hk.wt.named _ c) (Nat.le_succ k)
theorem Lk.waited {np k i : Nat} {x : LmM} (hk : Lk np k x) (hi : i < x.M.length) (s : Bool) {m : Wtr} (hm : 0 ≤ m.g ∧ m.g < (x.crew.length : Int)) : Lk np k { x with M := x.M.set i (waitF (x.M.getD i (emptyM 0)) s m).2 } := by
 have := hk.setM (M := x.M.set i (waitF (x.M.getD i (emptyM 0)) s m).2) (j := k) (List.length_set ..) (hk.inv.set ((hk.inv.get hi).wait s m) i) (hk.wt.set (fun a ha => (wait_wt _ _ _ _ ha).imp id (fun e => by rw [e]; exact hm)))
 rwa [Nat.max_self] at this
end Go.Proofs.YtchkaaeoffmjnaaGreatDoor
namespace Go.Proofs.YtchkaaeoffmjnaaGreatDoor
set_option linter.unusedVariables false
set_option linter.unusedSimpArgs false
open Go.RowKit
section
variable {w : World} {L : List Piece} {A : Piece} {a : Option Addr} {n sz b off o q : Nat} {xs : List Value} {v : Value} {K : Value → Prop}
theorem SL.addrR (H : SL w L) (i : Nat) (hi : L[i]? = some A) (hA : Reader A sz a n xs) (hn : 0 < n) : ∃ b off, a = some ⟨b, off, none⟩ := by
 obtain ⟨T, _, hT⟩ := SLs.at i H hi
 obtain ⟨b, off, h, _⟩ := (hA T w hT).2.2 hn
 exact ⟨b, off, h⟩
theorem SL.cellR (H : SL w L) (i : Nat) (hi : L[i]? = some A) (hA : Reader A sz (some ⟨b, off, none⟩) n xs) (hn : 0 < n) (ho : o = off + q) (hv : xs[q]? = some v) : w.cell? ⟨b, o, none⟩ = some v := by
 obtain ⟨T, _, hT⟩ := SLs.at i H hi
 obtain ⟨b', off', h, hc⟩ := (hA T w hT).2.2 hn
 injection h with h
 injection h with h1 h2
 subst h1 h2 ho
 exact hc q v hv
theorem SL.ldR (H : SL w L) (i : Nat) (hi : L[i]? = some A) (hA : Reader A sz (some ⟨b, off, none⟩) n xs) (hn : 0 < n) (ho : o = off + q) (hv : xs[q]? = some v) (k : K v) : Ld w ⟨b, o, none⟩ K := Ld.by (H.cellR i hi hA hn ho hv) k
theorem LdC.R (i : Nat) (hi : L[i]? = some A) (hA : Reader A sz (some ⟨b, off, none⟩) n xs) (hn : 0 < n) (ho : o = off + q) (hv : xs[q]? = some v) (k : K v) : LdC (fun w => SL w L) ⟨b, o, none⟩ K := LdC.by (fun w H => H.cellR i hi hA hn ho hv) k
end
theorem wtr_cell {R : List Wtr} {j : Nat} {m : Wtr} (h : R[j]? = some m) (i : Nat) (hi : i < 3) : (R.flatMap Wtr.cells)[j * 3 + i]? = m.cells[i]? := by
 obtain ⟨hk, rfl⟩ := List.getElem?_eq_some_iff.1 h
 exact flat_get Wtr.cells 3 (fun _ => rfl) R j i hi hk
theorem wakes_snoc (x : LmM) (g ch : Int) : ∀ (a : List Wtr) (m : Wtr), wakesL x g ch (a ++ [m]) = if (stateF (wakesL x g ch a).crew m.g).1 = 1 then wakeL (wakesL x g ch a) ⟨7, m.g, ch, m.case_, 0, g, false, false⟩ else wakesL x g ch a := by
 intro a m
 induction a generalizing x with
 | nil => rfl
 | cons z a ih =>
  rw [List.cons_append]
  unfold wakesL
  exact ih _
theorem wakes_step {x : LmM} {g ch : Int} {R : List Wtr} {j : Nat} {m : Wtr} (h : R[j]? = some m) : wakesL x g ch (R.take (j + 1)) = if (stateF (wakesL x g ch (R.take j)).crew m.g).1 = 1 then wakeL (wakesL x g ch (R.take j)) ⟨7, m.g, ch, m.case_, 0, g, false, false⟩ else wakesL x g ch (R.take j) := by
 rw [List.take_add_one, h]
 exact wakes_snoc x g ch _ m
theorem wakes_name (x : LmM) (g ch : Int) (ws : List Wtr) : (wakesL x g ch ws).name = x.name := by
 induction ws generalizing x with
 | nil => rfl
 | cons z a ih =>
  unfold wakesL
  rw [ih]
  split <;> rfl
theorem senders_step {x : LmM} {R : List Wtr} {j : Nat} {m : Wtr} (h : R[j]? = some m) : sendersL x (R.drop j) = if (stateF x.crew m.g).1 = 1 then panicL x m.g else sendersL x (R.drop (j + 1)) := by
 obtain ⟨hk, rfl⟩ := List.getElem?_eq_some_iff.1 h
 rw [List.drop_eq_getElem_cons hk]
 rfl
theorem close_in {np k i : Nat} {x : LmM} (hk : Lk np k x) (hi : i < x.M.length) : (∀ m ∈ (closeF (x.M.getD i (emptyM 0))).1.1, 0 ≤ m.g ∧ m.g < (x.crew.length : Int)) ∧ (∀ m ∈ (closeF (x.M.getD i (emptyM 0))).1.2.1, 0 ≤ m.g ∧ m.g < (x.crew.length : Int)) ∧
  (closeF (x.M.getD i (emptyM 0))).1.1.length ≤ 1024 ∧ (closeF (x.M.getD i (emptyM 0))).1.2.1.length ≤ 1024 := by
 have hmem : x.M.getD i (emptyM 0) ∈ x.M := by
  rw [List.getD_eq_getElem?_getD, List.getElem?_eq_getElem hi]
  exact List.getElem_mem hi
 have hI := hk.inv _ hmem
 have hW := hk.wt _ hmem
 unfold closeF
 split
 ·refine ⟨fun m hm => ?_, fun m hm => ?_, Nat.zero_le _, Nat.zero_le _⟩ <;> cases hm
 ·exact ⟨fun m hm => hW m (.inr hm), fun m hm => hW m (.inl hm), hI.rcv.1, hI.snd.1⟩
theorem Lk.closed {np k i : Nat} {x : LmM} (hk : Lk np k x) (hi : i < x.M.length) : Lk np k { x with M := x.M.set i (closeF (x.M.getD i (emptyM 0))).2 } := by
 have := hk.setM (M := x.M.set i (closeF (x.M.getD i (emptyM 0))).2) (j := k) (List.length_set ..) (hk.inv.set (hk.inv.get hi).close i) (hk.wt.set (fun a ha => by
  unfold closeF at ha
  split at ha
  ·exact .inl ha
  ·rcases ha with ha | ha <;> cases ha))
 rwa [Nat.max_self] at this
theorem shut_nil {x : LmM} {g : Int} {cj : Nat} (hz : numL x (cj : Int) < 0) : shutL x g (cj : Int) = panicL x g := by
 unfold shutL
 dsimp only
 rw [if_pos hz]
theorem shut_shut {x : LmM} {g : Int} {cj i : Nat} (hni : numL x (cj : Int) = (i : Int)) (hc : (x.M.getD i (emptyM 0)).closed = true) : shutL x g (cj : Int) = panicL x g := by
 unfold shutL
 dsimp only
 rw [hni, if_neg (by omega), Int.toNat_natCast, if_pos hc]
theorem shut_main {x : LmM} {g : Int} {cj i : Nat} {R Sd : List Wtr} {ec : Int} {y : PipeM} (hni : numL x (cj : Int) = (i : Int)) (hc : (x.M.getD i (emptyM 0)).closed = false) (hC : closeF (x.M.getD i (emptyM 0)) = ((R, Sd, ec), y)) :
  shutL x g (cj : Int) = sendersL (wakesL (turnL (noteL { x with M := x.M.set i y } ⟨5, g, numL x (cj : Int), -1, -1, -1, false, false⟩) g 0 0) g (numL x (cj : Int)) R) Sd := by
 unfold shutL
 dsimp only
 rw [hni, if_neg (by omega), Int.toNat_natCast, if_neg (by rw [hc]; exact Bool.false_ne_true), hC]
end Go.Proofs.YtchkaaeoffmjnaaGreatDoor
namespace Go.Proofs.YtchkaaeoffmjnaaGreatDoor
set_option linter.unusedVariables false
set_option linter.unusedSimpArgs false
open Go.RowKit
set_option maxRecDepth 100000
end Go.Proofs.YtchkaaeoffmjnaaGreatDoor
namespace Go.Proofs.YtchkaaeoffmjnaaGreatDoor
set_option linter.unusedVariables false
set_option linter.unusedSimpArgs false
open Go.RowKit
def drawI (dr : List Int) (d n : Nat) : Nat × Nat := if n = 1 ∨ dr.length ≤ d then (0, d) else ((dr.getD d 0).toNat % n, d + 1)
theorem drawL_I (s : ScrM) (x : LmM) (n : Nat) : drawL s x n = ((drawI s.draws x.d n).1, { x with d := (drawI s.draws x.d n).2 }) := by
 unfold drawL drawI
 split <;> rfl
theorem drawI_lt (dr : List Int) (d : Nat) {n : Nat} (h : 0 < n) : (drawI dr d n).1 < n := by
 unfold drawI
 split
 ·exact h
 ·exact Nat.mod_lt _ h
theorem readyL_at {ok : List Bool} {M : List PipeM} {L : List CaseM} {i : Nat} (h : i < (readyL ok M L).length) : ∃ a : Nat, (readyL ok M L).getD i 0 = (a : Int) ∧ a < L.length := by
 have hm : (readyL ok M L)[i]? = some (readyL ok M L)[i] := List.getElem?_eq_getElem h
 have h1 : (readyL ok M L)[i] ∈ readyL ok M L := List.getElem_mem h
 rw [List.getD_eq_getElem?_getD, hm]
 generalize (readyL ok M L)[i] = z at h1
 unfold readyL readyK at h1
 obtain ⟨a, ha, rfl⟩ := List.mem_map.1 h1
 exact ⟨a, rfl, List.mem_range.1 (List.mem_filter.1 ha).1⟩
theorem readyL_len (ok : List Bool) (M : List PipeM) (L : List CaseM) : (readyL ok M L).length ≤ L.length := readyK_le ok M L L.length
theorem choose_ready {s : ScrM} {x : LmM} {g : Int} {o : OpM} {rd : List Int} {an : Nat} {cz : CaseM} (hrd : readyL (okN x) (pipesN x) o.cases = rd) (hr : 0 < rd.length) (han : rd.getD (drawI s.draws x.d rd.length).1 0 = (an : Int)) (hcz : o.cases[an]? = some cz) :
  chooseL s x g o = talkL { x with d := (drawI s.draws x.d rd.length).2 } g cz (an : Int) := by
 unfold chooseL
 dsimp only
 rw [hrd, if_pos hr, drawL_I]
 dsimp only
 rw [han, Int.toNat_natCast, List.getD_eq_getElem?_getD, hcz]
 rfl
theorem choose_dflt {s : ScrM} {x : LmM} {g : Int} {o : OpM} (hr : ¬ 0 < (readyL (okN x) (pipesN x) o.cases).length) (hd : o.dflt = true) : chooseL s x g o = turnL (noteL x (bareE 8 g)) g 0 0 := by
 unfold chooseL
 dsimp only
 rw [if_neg hr, if_pos hd]
theorem choose_park {s : ScrM} {x : LmM} {g : Int} {o : OpM} (hr : ¬ 0 < (readyL (okN x) (pipesN x) o.cases).length) (hd : o.dflt = false) :
  chooseL s x g o = turnL { noteL x ⟨6, g, -1, (o.cases.length : Int), 0, -1, false, false⟩ with M := backN (noteL x ⟨6, g, -1, (o.cases.length : Int), 0, -1, false, false⟩).name (parkF (okN (noteL x ⟨6, g, -1, (o.cases.length : Int), 0, -1, false, false⟩)) g o.cases (pipesN (noteL x ⟨6, g, -1, (o.cases.length : Int), 0, -1, false, false⟩))).2 (noteL x ⟨6, g, -1, (o.cases.length : Int), 0, -1, false, false⟩).M } g 0 1 := by
 unfold chooseL
 dsimp only
 rw [if_neg hr, if_neg (by rw [hd]; exact Bool.false_ne_true)]
 rfl
namespace Lk
variable {np k : Nat} {x : LmM}
theorem spawn (h : Lk np k x) {a : Int} (h0 : 0 ≤ a) (h1 : a < (np : Int)) : Lk np k { x with crew := (spawnF x.crew a).2 } := by
 have hs : (spawnF x.crew a).2 = x.crew ∨ ((spawnF x.crew a).2 = x.crew ++ [⟨a, 0, 0⟩] ∧ x.crew.length ≠ 512) := by
  unfold spawnF
  rw [if_neg (by omega)]
  split
  ·exact .inl rfl
  ·rename_i hn
   exact .inr ⟨rfl, hn⟩
 rcases hs with hs | ⟨hs, hn⟩
 ·rw [hs]
  exact h
 ·rw [hs]
  have := h.cl
  refine { h with sm := ?_, cl := ?_, pr := ?_, wt := ?_ }
  ·intro o ho
   rcases List.mem_append.1 ho with ho | ho
   ·exact h.sm o ho
   ·simp at ho
    subst ho
    exact ⟨Int.le_refl _, Int.natCast_nonneg k⟩
  ·show (x.crew ++ [(⟨a, 0, 0⟩ : One)]).length ≤ 512
   simp
   omega
  ·intro o ho
   rcases List.mem_append.1 ho with ho | ho
   ·exact h.pr o ho
   ·simp at ho
    subst ho
    exact ⟨h0, h1⟩
  ·intro y hy b hb
   have := h.wt y hy b hb
   show 0 ≤ b.g ∧ b.g < ((x.crew ++ [(⟨a, 0, 0⟩ : One)]).length : Int)
   simp
   omega
theorem make (h : Lk np k x) {a b : Nat} (ha : a < 8) (hb : b ≤ 4) : Lk np (k + 1) { x with M := x.M ++ [emptyM b], name := x.name.set a x.M.length } := by
 refine { h.more (Nat.le_succ k) with nm := ?_, n8 := ?_, inv := ?_, wt := ?_, ml := ?_ }
 ·refine ⟨fun n hn => ?_, ?_⟩
  ·show n < ((x.M ++ [emptyM b]).length : Int)
   rcases List.mem_or_eq_of_mem_set hn with hn | rfl
   ·have := h.nm.lt n hn
    simp
    omega
   ·simp
    omega
  ·rw [List.pairwise_iff_getElem]
   intro i j hi hj hij
   have hp := List.pairwise_iff_getElem.1 h.nm.ne i j (by simpa using hi) (by simpa using hj) hij
   simp only [List.length_set] at hi hj
   simp only [List.getElem_set]
   have hli := h.nm.lt _ (List.getElem_mem hi)
   have hlj := h.nm.lt _ (List.getElem_mem hj)
   intro h0
   split <;> split <;> omega
 ·show (x.name.set a _).length = 8
  rw [List.length_set]
  exact h.n8
 ·intro y hy
  rcases List.mem_append.1 hy with hy | hy
  ·exact (h.inv y hy).more (Nat.le_succ k)
  ·simp at hy
   subst hy
   exact (Inv9.empty hb).more (Nat.zero_le _)
 ·intro y hy c hc
  rcases List.mem_append.1 hy with hy | hy
  ·exact h.wt y hy c hc
  ·simp at hy
   subst hy
   simp [emptyM] at hc
 ·show (x.M ++ [emptyM b]).length ≤ k + 1
  have := h.ml
  simp
  omega
theorem talk (h : Lk np k x) (g : Int) (c : CaseM) (a : Int) : Lk np (k + 4) (talkL x g c a) := by
 have h1 := h.tried c
 unfold talkL
 dsimp only
 split
 ·exact (h1.panic g).more (by omega)
 ·split
  ·exact (((h1.note _).turn g 0 0).wake _)
  ·exact ((h1.note _).turn g 0 0).more (by omega)
theorem alone (h : Lk np k x) {g : Int} (hg : 0 ≤ g ∧ g < (x.crew.length : Int)) (c : CaseM) : Lk np (k + 4) (aloneL x g c) := by
 unfold aloneL
 dsimp only
 split
 ·exact h.talk g c _
 ·have h1 := h.note ⟨6, g, numL x c.chan, -1, c.value, -1, c.send, false⟩
  split
  ·rename_i h0
   by_cases hi : (numL x c.chan).toNat < (noteL x ⟨6, g, numL x c.chan, -1, c.value, -1, c.send, false⟩).M.length
   ·exact ((h1.waited hi c.send (m := ⟨g, -1, c.value⟩) hg).turn g 0 1).more (by omega)
   ·rw [List.set_eq_of_length_le (by omega)]
    exact (h1.turn g 0 1).more (by omega)
  ·exact (h1.turn g 0 1).more (by omega)
theorem shut (h : Lk np k x) (g c : Int) : Lk np (k + 1100) (shutL x g c) := by
 unfold shutL
 dsimp only
 split
 ·exact (h.panic g).more (by omega)
 ·split
  ·exact (h.panic g).more (by omega)
  ·by_cases hi : (numL x c).toNat < x.M.length
   ·have h1 := ((h.closed hi).note ⟨5, g, numL x c, -1, -1, -1, false, false⟩).turn g 0 0
    have hl := (close_in h hi).2.2.1
    exact ((h1.wakes g (numL x c) _).sends _).more (by omega)
   ·have e : x.M.getD (numL x c).toNat (emptyM 0) = emptyM 0 := by rw [List.getD_eq_getElem?_getD, List.getElem?_eq_none (by omega)]; rfl
    rw [List.set_eq_of_length_le (by omega), e]
    have h1 := (h.note ⟨5, g, numL x c, -1, -1, -1, false, false⟩).turn g 0 0
    exact ((h1.wakes g (numL x c) []).sends []).more (by simp)
theorem choose (h : Lk np k x) {g : Int} (hg : 0 ≤ g ∧ g < (x.crew.length : Int)) (s : ScrM) (o : OpM) : Lk np (k + 4) (chooseL s x g o) := by
 unfold chooseL
 dsimp only
 split
 ·rw [drawL_I]
  exact (h.dd _).talk g _ _
 ·split
  ·exact ((h.note _).turn g 0 0).more (by omega)
  ·have h1 := h.note ⟨6, g, -1, (o.cases.length : Int), 0, -1, false, false⟩
   refine ((h1.back (j := k + 1) (AllInv.parkF (M := pipesN x) ?_ ?_ g o.cases) (WtIn.parkF (M := pipesN x) ?_ _ hg o.cases) (Nat.le_refl _)).turn g 0 1).more (by omega)
   ·exact h1.inv.named
   ·rw [h.pipes_len, h.ok_len]
   ·exact h.wt.named
theorem other (h : Lk np k x) {o : OpM} (ho : OpOk np o) (g : Int) : Lk np (k + 4) (otherL x g o) := by
 unfold otherL
 split
 ·rename_i h1
  exact (((h.spawn ho.a0 (ho.pr h1)).note _).turn g 0 0).more (by omega)
 ·split
  ·rename_i h2
   have ha := ho.a0; have ha1 := ho.a1; have hb := ho.cap h2
   exact (((h.make (a := o.a.toNat) (b := o.b.toNat) (by omega) (by omega)).note _).turn g 0 0).more (by omega)
  ·split
   ·exact ((h.note _).turn g 0 0).more (by omega)
   ·split
    ·exact ((h.note _).turn g 0 0).more (by omega)
    ·exact ((h.turn g 0 2).note _).more (by omega)
theorem does (h : Lk np k x) {g : Int} (hg : 0 ≤ g ∧ g < (x.crew.length : Int)) {o : OpM} (ho : OpOk np o) (s : ScrM) : Lk np (k + 1100) (doesL s x g o) := by
 unfold doesL
 split
 ·exact (h.alone hg _).more (by omega)
 ·split
  ·exact (h.alone hg _).more (by omega)
  ·split
   ·exact h.shut g _
   ·split
    ·exact (h.choose hg s o).more (by omega)
    ·exact (h.other ho g).more (by omega)
end Lk
theorem over_able {L : List One} (h : overF L = 0) : 0 < (ableF L).length := by
 unfold overF at h
 split at h
 ·assumption
 ·split at h <;> cases h
theorem ver_zero {s : ScrM} {x : LmM} (h : verL s x = 0) : x.pan = false ∧ overF x.crew = 0 ∧ x.p < s.plan.length := by
 unfold verL at h
 split at h
 ·cases h
 ·rename_i hp
  split at h
  ·rename_i ho
   exact absurd h ho
  ·rename_i ho
   split at h
   ·cases h
   ·exact ⟨by simpa using hp, by simpa using ho, by omega⟩
theorem who_in {s : ScrM} {x : LmM} (h : verL s x = 0) (h0 : ¬ whoL s x < 0) : 0 ≤ whoL s x ∧ whoL s x < (x.crew.length : Int) := by
 obtain ⟨_, ho, _⟩ := ver_zero h
 have ha := over_able ho
 refine ⟨by omega, ?_⟩
 unfold whoL at h0 ⊢
 split at h0
 ·omega
 ·rename_i hn
  rw [if_neg hn]
  have hm : (s.plan.getD x.p 0).toNat % (ableF x.crew).length < (ableF x.crew).length := Nat.mod_lt _ ha
  rw [List.getD_eq_getElem?_getD, List.getElem?_eq_getElem hm]
  exact (ableF_in x.crew x.crew.length _ (List.getElem_mem hm)).2
theorem Lk.step {np k : Nat} {s : ScrM} {x : LmM} (h : Lk np k x) (hs : ProgsOk s.progs) (hn : s.progs.length = np) (h1 : 1 ≤ np) : Lk np (k + 1100) (stepL s x) := by
 unfold stepL
 split
 ·exact h.more (by omega)
 ·rename_i hv
  have hv : verL s x = 0 := Classical.byContradiction hv
  split
  ·exact ((h.pp _).note _).more (by omega)
  ·rename_i h0
   have hw := who_in hv h0
   subst hn
   exact (h.pp (x.p + 1)).does hw (opL_ok hs h1 x _) s
theorem Lk.new (np : Nat) (h : 1 ≤ np) : Lk np 0 newL where
 nm := ⟨fun n hn => by
  have : n = -1 := List.eq_of_mem_replicate hn
  rw [this]
  exact Int.lt_of_lt_of_le (by decide) (Int.natCast_nonneg _), by
  show (List.replicate 8 (-1 : Int)).Pairwise _
  exact List.pairwise_replicate.2 (.inr (fun h => by omega))⟩
 n8 := rfl
 inv := fun x hx => absurd hx List.not_mem_nil
 sm := fun o ho => by
  obtain rfl : o = ⟨0, 0, 0⟩ := List.mem_singleton.1 ho
  exact ⟨Int.le_refl _, Int.le_refl _⟩
 cl := by decide
 pr := fun o ho => by
  obtain rfl : o = ⟨0, 0, 0⟩ := List.mem_singleton.1 ho
  exact ⟨Int.le_refl _, by dsimp only; omega⟩
 tr := Nat.le_refl _
 wt := fun y hy => absurd hy List.not_mem_nil
 ml := Nat.le_refl _
theorem Lk.run {np : Nat} {s : ScrM} (hs : ProgsOk s.progs) (hn : s.progs.length = np) (h1 : 1 ≤ np) : ∀ n, Lk np (n * 1100) (runL s n)
 | 0 => Lk.new np h1
 | n + 1 => ((Lk.run hs hn h1 n).step hs hn h1).more (by omega)
theorem rs_snoc {w : World} {F : List Piece} {P : Nat → PipeM → Piece} {ps : List Nat} {M : List PipeM} {h : Nat} {y : PipeM} (hl : ps.length = M.length) (H : SL w (P h y :: all (List.zipWith (pieceO P) (ps.map some) M) :: F)) : SL w (all (List.zipWith (pieceO P) ((ps ++ [h]).map some) (M ++ [y])) :: F) := by
 rw [List.map_append, List.zipWith_append (by simp [hl])]
 obtain ⟨T, t1, t2, T2, u1, u2, h3⟩ := H.up1
 refine ⟨fun k => T k ∨ T2 k, fun k hk => hk.elim (t1 k) (fun h => (u1 k h).1), ?_, h3.mono (fun k hk => ⟨hk.1.1, fun h => h.elim hk.1.2 hk.2⟩)⟩
 exact SLs.app.2 ⟨T, fun k hk => .inl hk, t2, ⟨T2, fun k hk => ⟨.inr hk, fun h => (u1 k hk).2 h⟩, u2, trivial⟩⟩
end Go.Proofs.YtchkaaeoffmjnaaGreatDoor
namespace Go.Proofs.YtchkaaeoffmjnaaGreatDoor
set_option linter.unusedVariables false
set_option linter.unusedSimpArgs false
open Go.RowKit
set_option maxRecDepth 100000
end Go.Proofs.YtchkaaeoffmjnaaGreatDoor
namespace Go.Proofs.YtchkaaeoffmjnaaGreatDoor
set_option linter.unusedVariables false
set_option linter.unusedSimpArgs false
open Go.RowKit
set_option maxRecDepth 100000
theorem case_cell {R : List CaseM} {j : Nat} {m : CaseM} (h : R[j]? = some m) (i : Nat) (hi : i < 3) : (R.flatMap CaseM.cells)[j * 3 + i]? = m.cells[i]? := by
 obtain ⟨hk, rfl⟩ := List.getElem?_eq_some_iff.1 h
 exact flat_get CaseM.cells 3 (fun _ => rfl) R j i hi hk
theorem Lk.parked {np k : Nat} {x : LmM} (h1 : Lk np k x) {g : Int} (hg : 0 ≤ g ∧ g < (x.crew.length : Int)) (L : List CaseM) : Lk np k { x with M := backN x.name (parkF (okN x) g L (pipesN x)).2 x.M } :=
 h1.back (AllInv.parkF (M := pipesN x) h1.inv.named (by rw [h1.pipes_len, h1.ok_len]) g L) (WtIn.parkF (M := pipesN x) h1.wt.named _ hg L) (Nat.le_refl _)
end Go.Proofs.YtchkaaeoffmjnaaGreatDoor
namespace Go.Proofs.YtchkaaeoffmjnaaGreatDoor
set_option linter.unusedVariables false
set_option linter.unusedSimpArgs false
open Go.RowKit
set_option maxRecDepth 100000
end Go.Proofs.YtchkaaeoffmjnaaGreatDoor
namespace Go.Proofs.YtchkaaeoffmjnaaGreatDoor
set_option linter.unusedVariables false
set_option linter.unusedSimpArgs false
open Go.RowKit
set_option maxRecDepth 100000
theorem IntA.of {A : Piece} {b o : Nat} {xs : List Int} (h : Reader A 1 (some ⟨b, o, none⟩) xs.length (ints xs)) : IntA A b o xs := by
 intro T w hT j x hx
 have hl := (List.getElem?_eq_some_iff.1 hx).1
 obtain ⟨b', o', he, hc⟩ := (h T w hT).2.2 (by omega)
 cases he
 rw [Nat.mul_one]
 exact hc j _ (by unfold ints; rw [List.getElem?_map, hx]; rfl)
theorem step_stop {s : ScrM} {x : LmM} (h : ¬ verL s x = 0) : stepL s x = x := by unfold stepL; rw [if_pos h]
theorem step_compact {s : ScrM} {x : LmM} (h : verL s x = 0) (h0 : whoL s x < 0) : stepL s x = noteL { x with p := x.p + 1 } ⟨13, -1, -1, -1, -1, -1, false, false⟩ := by
 unfold stepL
 rw [if_neg (fun hh => hh h), if_pos h0]
 rfl
theorem step_does {s : ScrM} {x : LmM} (h : verL s x = 0) (h0 : ¬ whoL s x < 0) : stepL s x = doesL s { x with p := x.p + 1 } (whoL s x) (opL s x (whoL s x)) := by
 unfold stepL
 rw [if_neg (fun hh => hh h), if_neg h0]
theorem does_alone3 {s : ScrM} {x : LmM} {g : Int} {o : OpM} (h : o.kind = 3) : doesL s x g o = aloneL x g ⟨true, o.a, o.b⟩ := by unfold doesL; rw [if_pos h]
theorem does_alone4 {s : ScrM} {x : LmM} {g : Int} {o : OpM} (h3 : o.kind ≠ 3) (h : o.kind = 4) : doesL s x g o = aloneL x g ⟨false, o.a, 0⟩ := by unfold doesL; rw [if_neg h3, if_pos h]
theorem does_shut {s : ScrM} {x : LmM} {g : Int} {o : OpM} (h3 : o.kind ≠ 3) (h4 : o.kind ≠ 4) (h : o.kind = 5) : doesL s x g o = shutL x g o.a := by unfold doesL; rw [if_neg h3, if_neg h4, if_pos h]
theorem does_choose {s : ScrM} {x : LmM} {g : Int} {o : OpM} (h3 : o.kind ≠ 3) (h4 : o.kind ≠ 4) (h5 : o.kind ≠ 5) (h : o.kind = 6) : doesL s x g o = chooseL s x g o := by unfold doesL; rw [if_neg h3, if_neg h4, if_neg h5, if_pos h]
theorem does_other {s : ScrM} {x : LmM} {g : Int} {o : OpM} (h3 : o.kind ≠ 3) (h4 : o.kind ≠ 4) (h5 : o.kind ≠ 5) (h6 : o.kind ≠ 6) : doesL s x g o = otherL x g o := by unfold doesL; rw [if_neg h3, if_neg h4, if_neg h5, if_neg h6]
end Go.Proofs.YtchkaaeoffmjnaaGreatDoor
namespace Go.Proofs.YtchkaaeoffmjnaaGreatDoor
set_option linter.unusedVariables false
set_option linter.unusedSimpArgs false
open Go.RowKit
def withinF (n c np : Int) : Bool :=
 if c = 112 then decide (0 ≤ n ∧ n < np) else if c = 99 ∨ c = 120 then decide (0 ≤ n ∧ n < 8) else if c = 109 then decide (0 ≤ n ∧ n ≤ 4) else if c = 118 then decide (0 ≤ n ∧ n ≤ 99) else n == 0
def rowF (k : Int) : Int × Int :=
 if k = 1 then (112, 46) else if k = 2 then (99, 109) else if k = 3 then (99, 118) else if k = 4 then (99, 46) else if k = 5 then (99, 46) else if k = 6 then (46, 46) else if k = 7 then (120, 46) else if k = 8 then (120, 46) else (46, 46)
def caseR (c : CaseM) : Bool := withinF c.chan 99 0 && (!c.send || withinF c.value 118 0) && (c.send || c.value == 0)
def opE (np : Int) (o : OpM) : Int :=
 if np < 1 ∨ 8 < np ∨ o.kind < 1 ∨ 9 < o.kind then 1
 else if 4 < o.cases.length then 2
 else if ¬ (withinF o.a (rowF o.kind).1 np = true ∧ withinF o.b (rowF o.kind).2 np = true) then 4
 else if o.kind ≠ 6 ∧ (o.cases.length ≠ 0 ∨ o.dflt = true) then 4
 else if o.cases.all caseR = true then 0 else 4
def planOk (n : Int) : Bool := decide (-1 ≤ n ∧ n ≤ 1000)
def drawOk (n : Int) : Bool := decide (0 ≤ n ∧ n ≤ 1000)
def progOk (np : Int) (p : List OpM) : Bool := p.all (fun o => opE np o == 0)
def shortP (p : List OpM) : Bool := decide (p.length ≤ 32)
def checkE (s : ScrM) : Int :=
 if s.t < 1 ∨ 256 < s.t ∨ s.m < 1 ∨ 1048576 < s.m then 1
 else if 8 < s.progs.length ∨ 200 < s.plan.length ∨ 64 < s.draws.length then 2
 else if s.progs.all shortP = false then 2
 else if s.progs.length = 0 then 4
 else if s.progs.all (progOk s.progs.length) = false then 4
 else if s.plan.all planOk = false then 4
 else if s.draws.all drawOk = false then 4
 else 0
section
variable {α : Type} {L : List α} {p : α → Bool} {j : Nat} {z : α}
theorem all_step (h : (L.take j).all p = true) (hz : L[j]? = some z) (hp : p z = true) : (L.take (j + 1)).all p = true := by
 rw [List.take_add_one, hz, List.all_append, h]
 simp [hp]
theorem all_no (hz : L[j]? = some z) (hp : p z = false) : L.all p = false := by
 rw [List.all_eq_false]
 exact ⟨z, List.mem_of_getElem? hz, by simp [hp]⟩
end
/-- What a right script is. -/
structure Right (s : ScrM) : Prop where
 n1 : 1 ≤ s.progs.length
 pl : s.plan.length ≤ 200
 dl : s.draws.length ≤ 64
 ok : ProgsOk s.progs
 p0 : ∀ z ∈ s.plan, -1 ≤ z
 p1 : ∀ z ∈ s.plan, z ≤ 1000
 d0 : ∀ z ∈ s.draws, 0 ≤ z
 ol : ∀ p ∈ s.progs, p.length ≤ 32
theorem within_c {n np : Int} (h : withinF n 99 np = true) : 0 ≤ n ∧ n < 8 := by
 unfold withinF at h
 simpa using h
theorem opE_ok {np : Nat} {o : OpM} (h : opE np o = 0) : OpOk np o := by
 unfold opE at h
 split at h
 ·cases h
 ·rename_i h1
  split at h
  ·cases h
  ·rename_i h2
   split at h
   ·cases h
   ·rename_i h3
    split at h
    ·cases h
    ·split at h
     ·rename_i h5
      have h3 := Classical.not_not.1 h3
      obtain ⟨ha, hb⟩ := h3
      have hkind : o.kind = 1 ∨ o.kind = 2 ∨ o.kind = 3 ∨ o.kind = 4 ∨ o.kind = 5 ∨ o.kind = 6 ∨ o.kind = 7 ∨ o.kind = 8 ∨ o.kind = 9 := by omega
      have key : 0 ≤ o.a ∧ o.a < 8 ∧ (o.kind = 1 → o.a < (np : Int)) ∧ 0 ≤ o.b ∧ o.b ≤ 99 ∧ (o.kind = 2 → o.b ≤ 4) ∧ (o.kind = 4 → o.b = 0) := by
       rcases hkind with hk | hk | hk | hk | hk | hk | hk | hk | hk <;> rw [hk] at ha hb <;> simp [rowF, withinF] at ha hb <;> omega
      exact ⟨by omega, by omega, key.1, key.2.1, key.2.2.1, key.2.2.2.1, key.2.2.2.2.1, key.2.2.2.2.2.1, key.2.2.2.2.2.2, by omega, fun c hc => by
       have := List.all_eq_true.1 h5 c hc
       unfold caseR at this
       simp only [Bool.and_eq_true] at this
       exact within_c this.1.1⟩
     ·cases h
theorem checkE_right {s : ScrM} (h : checkE s = 0) : Right s := by
 unfold checkE at h
 split at h
 ·cases h
 ·split at h
  ·cases h
  ·rename_i h2
   split at h
   ·cases h
   ·rename_i h3
    split at h
    ·cases h
    ·rename_i h4
     split at h
     ·cases h
     ·rename_i h5
      split at h
      ·cases h
      ·rename_i h6
       split at h
       ·cases h
       ·rename_i h7
        simp only [Bool.not_eq_false] at h3 h5 h6 h7
        refine ⟨by omega, by omega, by omega, fun p hp o ho => ?_, fun z hz => ?_, fun z hz => ?_, fun z hz => ?_, fun p hp => ?_⟩
        ·have := List.all_eq_true.1 h5 p hp
         have := List.all_eq_true.1 this o ho
         exact opE_ok (eq_of_beq this)
        ·have := List.all_eq_true.1 h6 z hz
         simp [planOk] at this
         exact this.1
        ·have := List.all_eq_true.1 h6 z hz
         simp [planOk] at this
         exact this.2
        ·have := List.all_eq_true.1 h7 z hz
         simp [drawOk] at this
         exact this.1
        ·have := List.all_eq_true.1 h3 p hp
         simpa [shortP] using this
end Go.Proofs.YtchkaaeoffmjnaaGreatDoor
namespace Go.Proofs.YtchkaaeoffmjnaaGreatDoor
set_option linter.unusedVariables false
set_option linter.unusedSimpArgs false
open Go.RowKit
theorem pre_wakes (x : LmM) (g ch : Int) (ws : List Wtr) : x.tr <+: (wakesL x g ch ws).tr := by
 induction ws generalizing x with
 | nil => exact List.prefix_refl _
 | cons z a ih =>
  unfold wakesL
  split
  ·exact (show x.tr <+: (wakeL x _).tr from ⟨[_], rfl⟩).trans (ih _)
  ·exact ih x
theorem pre_senders (x : LmM) (ws : List Wtr) : x.tr <+: (sendersL x ws).tr := by
 induction ws with
 | nil => exact List.prefix_refl _
 | cons z a ih =>
  unfold sendersL
  split
  ·exact ⟨[_], rfl⟩
  ·exact ih
theorem pre_talk (x : LmM) (g : Int) (c : CaseM) (a : Int) : x.tr <+: (talkL x g c a).tr := by
 unfold talkL
 dsimp only
 split
 ·exact ⟨[_], rfl⟩
 ·split
  ·exact (show x.tr <+: _ from ⟨[_], rfl⟩).trans ⟨[_], rfl⟩
  ·exact ⟨[_], rfl⟩
theorem pre_alone (x : LmM) (g : Int) (c : CaseM) : x.tr <+: (aloneL x g c).tr := by
 unfold aloneL
 split
 ·exact pre_talk ..
 ·dsimp only
  split <;> exact ⟨[_], rfl⟩
theorem pre_shut (x : LmM) (g c : Int) : x.tr <+: (shutL x g c).tr := by
 unfold shutL
 dsimp only
 split
 ·exact ⟨[_], rfl⟩
 ·split
  ·exact ⟨[_], rfl⟩
  ·refine List.IsPrefix.trans ?_ (pre_senders _ _)
   refine List.IsPrefix.trans ?_ (pre_wakes _ _ _ _)
   exact ⟨[_], rfl⟩
theorem pre_choose (s : ScrM) (x : LmM) (g : Int) (o : OpM) : x.tr <+: (chooseL s x g o).tr := by
 unfold chooseL
 dsimp only
 split
 ·refine List.IsPrefix.trans ?_ (pre_talk _ _ _ _)
  rw [drawL_I]
  exact List.prefix_refl _
 ·split <;> exact ⟨[_], rfl⟩
theorem pre_other (x : LmM) (g : Int) (o : OpM) : x.tr <+: (otherL x g o).tr := by
 unfold otherL
 split
 ·exact ⟨[_], rfl⟩
 ·split
  ·exact ⟨[_], rfl⟩
  ·split
   ·exact ⟨[_], rfl⟩
   ·split <;> exact ⟨[_], rfl⟩
theorem pre_does (s : ScrM) (x : LmM) (g : Int) (o : OpM) : x.tr <+: (doesL s x g o).tr := by
 unfold doesL
 split
 ·exact pre_alone ..
 ·split
  ·exact pre_alone ..
  ·split
   ·exact pre_shut ..
   ·split
    ·exact pre_choose ..
    ·exact pre_other ..
theorem pre_step (s : ScrM) (x : LmM) : x.tr <+: (stepL s x).tr := by
 unfold stepL
 split
 ·exact List.prefix_refl _
 ·split
  ·exact ⟨[_], rfl⟩
  ·exact pre_does s { x with p := x.p + 1 } _ _
theorem pre_does_len (s : ScrM) (x : LmM) (g : Int) (o : OpM) : x.tr.length ≤ (doesL s x g o).tr.length := (pre_does s x g o).length_le
theorem evs_drop (l : List Ev) : ∀ k, (l.flatMap Ev.cells).drop (k * 8) = (l.drop k).flatMap Ev.cells := by
 induction l with
 | nil => intro k; simp
 | cons e l ih =>
  intro k
  cases k with
  | zero => simp
  | succ k =>
   rw [List.flatMap_cons, List.drop_succ_cons, ← ih k, show (k + 1) * 8 = 8 + k * 8 by omega, ← List.drop_drop]
   rfl
theorem ev_one (e : Ev) : e.cells.all Value.oneCell' = true := rfl
theorem evs_one (L : List Ev) : (L.flatMap Ev.cells).all Value.oneCell' = true := by
 rw [List.all_flatMap, List.all_eq_true]
 exact fun c _ => ev_one c
end Go.Proofs.YtchkaaeoffmjnaaGreatDoor
