/- Layer 10: the law's pipes. -/
import Derived.Test.YtlccpbdpfamekaaForkH
namespace Go.Proofs.Ytlccpbdpfamekaa
set_option linter.unusedVariables false
set_option linter.unusedSimpArgs false
open Go.RowKit

theorem infoP : (Try.prog.info? 23).map (fun i => (i.zero, i.size, i.bytes)) = some (some (.pointer none), 1, 8) := by kernel_rfl
theorem infoQ : (Try.prog.info? 28).map (fun i => (i.zero, i.size, i.bytes)) = some (some (.pointer none), 1, 8) := by kernel_rfl

theorem box2 {w : World} {g : Nat} {a b : Value} {t : Nat} (k : w.heap[g]? = some (.cells #[a, b] t (0, 0))) :
    w.cell? ⟨g, 0, none⟩ = some a ∧ w.cell? ⟨g, 1, none⟩ = some b ∧ (∀ i, w.frozen? ⟨g, i, none⟩ = false) :=
  ⟨row_cell k 0 rfl, row_cell k 1 rfl, row_free k⟩

section
variable {w : World} {F : List Piece} {gs hs : List (Option Nat)} {M : List PipeM} {P : Nat → PipeM → Piece}

theorem all_snoc {A : Piece} {L : List Piece} (H : SL w (A :: all L :: F)) : SL w (all (L ++ [A]) :: F) := by
  refine SL.all.2 ?_
  rw [List.append_assoc]
  exact SL.all.1 H.up1

theorem all_nil (H : SL w F) : SL w (all [] :: F) := SL.all.2 H

theorem emp_in (H : SL w F) : SL w (emp :: F) := ⟨fun _ => False, fun _ h => h.elim, trivial, SLs.mono H (fun k hk => ⟨hk, id⟩)⟩

theorem zip_snoc (h : gs.length = M.length) (o : Option Nat) (x : PipeM) : List.zipWith (pieceO P) (gs ++ [o]) (M ++ [x]) = List.zipWith (pieceO P) gs M ++ [pieceO P o x] := by
  rw [List.zipWith_append h]
  rfl

theorem ps_snoc (h : gs.length = M.length) {g : Nat} {x : PipeM} (H : SL w (P g x :: all (List.zipWith (pieceO P) gs M) :: F)) : SL w (all (List.zipWith (pieceO P) (gs ++ [some g]) (M ++ [x])) :: F) := by
  rw [zip_snoc h]
  exact all_snoc H
theorem ps_snoc_none (h : gs.length = M.length) (x : PipeM) (H : SL w (all (List.zipWith (pieceO P) gs M) :: F)) : SL w (all (List.zipWith (pieceO P) (gs ++ [none]) (M ++ [x])) :: F) := by
  rw [zip_snoc h]
  exact all_snoc (emp_in H)

theorem pcs_snoc (gs : List (Option Nat)) (o : Option Nat) : pcs (gs ++ [o]) = pcs gs ++ [adr o] := by simp [pcs]
theorem oks_snoc (gs : List (Option Nat)) (o : Option Nat) : oks (gs ++ [o]) = oks gs ++ [o.isSome] := by simp [oks]

/-- Pipes of capacities, by the program and by the reference. -/
structure Made (w : World) (F : List Piece) (k : Nat) (v : Value) : Prop where
  out : ∃ pa pc qa qc gs hs M, v = .agg #[.slice pa k pc, .slice qa k qc] ∧ gs.length = k ∧ hs.length = k ∧ M.length = k ∧ oks gs = oks hs ∧ AllInv 0 M ∧
    SL w (PsP gs M :: RsP hs M :: Slc 23 1 (.slice pa k pc) k (pcs gs) :: Slc 28 1 (.slice qa k qc) k (pcs hs) :: F)

set_option maxRecDepth 100000 in
set_option maxHeartbeats 4000000 in
theorem l_pipes {A : Piece} {a : Option Addr} {ca n : Nat} {zs : List Int} (hn : n = zs.length) (hA : Reader A 1 a n (ints zs)) (hl : zs.length ≤ 1000) (H : SL w (A :: F)) :
    Calls Try.prog 30 #[.slice a n ca] w fun e w' => ∃ v, e = .returned v ∧ Made w' (A :: F) n v := by
  subst hn
  go_enter Try.func30, Try.ntmps30
  go_wp2_with fail
  have H1 := (H.alloc (.cells #[.slice none 0 0, .slice none 0 0] 64)).alloc (.cells #[.slice none 0 0, .slice none 0 0] 64)
  rw [size_alloc] at H1
  obtain ⟨r, hr⟩ : ∃ b, w.heap.size = b := ⟨_, rfl⟩
  obtain ⟨ob, hob⟩ : ∃ b, r + 1 = b := ⟨_, rfl⟩
  rw [hr, hob] at H1
  simp only [hr, hob]
  clear hr hob
  go_loopw [13] (fun i wr => ∃ (k : Nat) (pa : Option Addr) (pc : Nat) (qa : Option Addr) (qc : Nat) (gs hs : List (Option Nat)) (M : List PipeM), k ≤ zs.length ∧ i = .int .i64 k ∧ Hid (gs.length = k ∧ hs.length = k ∧ M.length = k ∧ oks gs = oks hs ∧ AllInv 0 M) ∧
    SL wr (row ob #[.slice pa k pc, .slice qa k qc] 64 :: Slc 23 1 (.slice pa k pc) k (pcs gs) :: Slc 28 1 (.slice qa k qc) k (pcs hs) :: PsP gs M :: RsP hs M :: row r #[.slice none 0 0, .slice none 0 0] 64 :: A :: F)) (fun i _ => zs.length - (intOf i).toNat)
  case atStart =>
    refine ⟨0, none, 0, none, 0, [], [], [], Nat.zero_le _, rfl, Lib.hid ⟨rfl, rfl, rfl, rfl, fun x hx => by cases hx⟩, ?_⟩
    have q := SL.slcNil 23 1 (SL.slcNil 28 1 (all_nil (all_nil H1.up1)))
    exact q.pick [5, 0, 1, 2, 3, 4] 6 (by decide)
  case round =>
    obtain ⟨k, pa, pc, qa, qc, gs, hs, M, hk, rfl, HG, HR⟩ := hrel
    by_cases hlt : k < zs.length
    · obtain ⟨b1, o1, e1, d1⟩ := Rd.int_at ((HR.up6).read hA) (by omega)
      have g1 := d1 k hlt
      subst e1
      clear d1
      obtain ⟨z, hz⟩ : ∃ z, zs.getD k 0 = z := ⟨_, rfl⟩
      rw [hz] at g1
      clear hz
      have dl : (k : Int) < (zs.length : Int) := by omega
      by_cases hzb : z < 0 ∨ 4 < z
      · have K1 := Lib.hid (pipe_new_bad z hzb)
        have K2 := Lib.hid (fun (w : World) (F : List Piece) (H : SL w F) => r_new_bad (w := w) z hzb H)
        clear hzb
        go_wp2_with fail
        refine (K1.out _).mono ?_
        rintro e w' ⟨rfl, rfl⟩
        go_wp2_with fail
        refine (K2.out _ _ HR).mono ?_
        rintro e w5 ⟨rfl, H5⟩
        obtain ⟨x0, x1, xf⟩ := box2 (H5.at 0 rfl)
        have xl := lt_of_block (H5.at 0 rfl)
        go_wp2_with (first | (at_builtin; (refine sl_app rfl _ _ 61 _ 8 rfl Try.underlying61 infoP rfl (by decide) (.slice pa k pc) _ _ [.pointer none] rfl rfl (by simp) rfl rfl H5.up1 (by omega) (by decide) ?_); intro g1 c1 w7 H7 hs7; obtain ⟨x0, x1, xf⟩ := box2 (H7.at 1 rfl); have xl := lt_of_block (H7.at 1 rfl)) | (at_builtin; go_must (refine sl_app rfl _ _ 62 _ 8 rfl Try.underlying62 infoQ rfl (by decide) (.slice qa k qc) _ _ [.pointer none] rfl rfl (by simp) rfl rfl ((H7.up1.set 0 (.slice (some ⟨g1, 0, none⟩) (k + 1) c1)).up2) (by omega) (by decide) ?_); intro g2 c2 w8 H8 hs8; dsimp [Array.setIfInBounds] at H8; obtain ⟨x0, x1, xf⟩ := box2 (H8.at 1 rfl); have xl := lt_of_block (H8.at 1 rfl)))
        go_roundw
        case rel =>
          obtain ⟨l1, l2, l3, l4, l5⟩ := HG.out
          have H9 := (H8.up1.set 1 (.slice (some ⟨g2, 0, none⟩) (k + 1) c2))
          dsimp [Array.setIfInBounds] at H9
          have Ha := ps_snoc_none (P := PipeP) (by omega) (emptyM 0) H9.up3
          have Hb := ps_snoc_none (P := RefP) (by omega) (emptyM 0) Ha.up4
          refine ⟨k + 1, some ⟨g1, 0, none⟩, c1, some ⟨g2, 0, none⟩, c2, gs ++ [none], hs ++ [none], M ++ [emptyM 0], by omega, by go_num, Lib.hid ⟨by simp [l1], by simp [l2], by simp [l3], by rw [oks_snoc, oks_snoc, l4], fun x hx => (List.mem_append.1 hx).elim (l5 x) (fun hx => by simp at hx; subst hx; exact Inv9.empty (by decide))⟩, ?_⟩
          rw [pcs_snoc, pcs_snoc]
          exact Hb.pick [2, 4, 3, 1, 0] 5 (by decide)
        case measure => simp [intOf]; omega
      · obtain ⟨zn, rfl⟩ : ∃ n : Nat, z = n := ⟨z.toNat, by omega⟩
        have hz4 : zn ≤ 4 := by omega
        clear hzb
        go_wp2_with fail
        refine (sl_new zn hz4 HR).mono ?_
        rintro e w4 ⟨ga, rfl, H4⟩
        go_wp2_with fail
        refine (r_new zn hz4 H4).mono ?_
        rintro e w5 ⟨ha, rfl, H5a⟩
        have H5 := H5a.pick [2, 3, 4, 5, 6, 7, 8, 0, 1] 9 (by decide)
        simp only [pk, nth, List.map_cons, List.map_nil, List.drop_succ_cons, List.drop_zero, List.cons_append, List.nil_append] at H5
        clear H5a
        obtain ⟨x0, x1, xf⟩ := box2 (H5.at 0 rfl)
        have xl := lt_of_block (H5.at 0 rfl)
        go_wp2_with (first | (at_builtin; (refine sl_app rfl _ _ 61 _ 8 rfl Try.underlying61 infoP rfl (by decide) (.slice pa k pc) _ _ [.pointer (some ⟨ga, 0, none⟩)] rfl rfl (by simp) rfl rfl H5.up1 (by omega) (by decide) ?_); intro g1 c1 w7 H7 hs7; obtain ⟨x0, x1, xf⟩ := box2 (H7.at 1 rfl); have xl := lt_of_block (H7.at 1 rfl)) | (at_builtin; go_must (refine sl_app rfl _ _ 62 _ 8 rfl Try.underlying62 infoQ rfl (by decide) (.slice qa k qc) _ _ [.pointer (some ⟨ha, 0, none⟩)] rfl rfl (by simp) rfl rfl ((H7.up1.set 0 (.slice (some ⟨g1, 0, none⟩) (k + 1) c1)).up2) (by omega) (by decide) ?_); intro g2 c2 w8 H8 hs8; dsimp [Array.setIfInBounds] at H8; obtain ⟨x0, x1, xf⟩ := box2 (H8.at 1 rfl); have xl := lt_of_block (H8.at 1 rfl)))
        go_roundw
        case rel =>
          obtain ⟨l1, l2, l3, l4, l5⟩ := HG.out
          have H9 := (H8.up1.set 1 (.slice (some ⟨g2, 0, none⟩) (k + 1) c2))
          dsimp [Array.setIfInBounds] at H9
          have Hx := H9.pick [8, 3, 7, 4, 0, 2, 1, 5, 6] 9 (by decide)
          simp only [pk, nth, List.map_cons, List.map_nil, List.drop_succ_cons, List.drop_zero, List.cons_append, List.nil_append] at Hx
          have Ha := ps_snoc (P := PipeP) (show gs.length = M.length by omega) Hx
          have Hy := Ha.pick [1, 2, 0, 3, 4, 5, 6, 7] 8 (by decide)
          simp only [pk, nth, List.map_cons, List.map_nil, List.drop_succ_cons, List.drop_zero, List.cons_append, List.nil_append] at Hy
          have Hb := ps_snoc (P := RefP) (show hs.length = M.length by omega) Hy
          refine ⟨k + 1, some ⟨g1, 0, none⟩, c1, some ⟨g2, 0, none⟩, c2, gs ++ [some ga], hs ++ [some ha], M ++ [emptyM zn], by omega, by go_num, Lib.hid ⟨by simp [l1], by simp [l2], by simp [l3], by rw [oks_snoc, oks_snoc, l4]; rfl, fun x hx => (List.mem_append.1 hx).elim (l5 x) (fun hx => by simp at hx; subst hx; exact Inv9.empty hz4)⟩, ?_⟩
          rw [pcs_snoc, pcs_snoc]
          exact Hb.pick [2, 3, 4, 1, 0] 5 (by decide)
        case measure => simp [intOf]; omega
    · have hkn : k = zs.length := by omega
      have HK := Lib.hid hkn
      obtain ⟨x0, x1, xf⟩ := box2 (HR.at 0 rfl)
      obtain ⟨r0, r1, rf⟩ := box2 (HR.at 5 rfl)
      have xl := lt_of_block (HR.at 0 rfl)
      have rl := lt_of_block (HR.at 5 rfl)
      obtain ⟨n1, n2⟩ := HR.ne 0 5 (by decide) rfl rfl
      clear hkn
      go_wp2_with fail
      refine bodyPost_ret (v := .agg #[.slice pa k pc, .slice qa k qc]) (by simp [results, Try.results30, go_sem, r0, r1, rl, n1, n2]) rfl ⟨_, rfl, ?_⟩
      obtain ⟨l1, l2, l3, l4, l5⟩ := HG.out
      rw [← HK.out]
      refine ⟨pa, pc, qa, qc, gs, hs, M, rfl, l1, l2, l3, l4, l5, SL.tl (A := any r) ?_⟩
      have HE := (HR.pick [5, 3, 4, 1, 2] 6 (by decide))
      simp only [pk, nth, List.map_cons, List.map_nil, List.drop_succ_cons, List.drop_zero, List.cons_append, List.nil_append] at HE
      have HE' := HE.toAny
      repeat (first | with_reducible refine SL.scr ?_ _ _ | with_reducible exact HE')
end

end Go.Proofs.Ytlccpbdpfamekaa

