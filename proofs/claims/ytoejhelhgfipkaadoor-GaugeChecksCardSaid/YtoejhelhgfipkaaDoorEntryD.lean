/- Events: Check. -/
import Derived.Test.YtoejhelhgfipkaaDoorEntryC
import Derived.Deep.RegionHeld3
import Derived.Deep.DeepCutAuto
import Derived.Deep.CutBlock
namespace Go.Proofs.YtoejhelhgfipkaaDoor
set_option linter.unusedVariables false
set_option linter.unusedSimpArgs false
open Go.RowKit

theorem boxb2 {w : World} {g : Nat} {a b : Value} {t : Nat} (q : w.heap[g]? = some (.cells #[a, b] t (0, 0))) :
    w.cell? ⟨g, 0, none⟩ = some a ∧ w.cell? ⟨g, 1, none⟩ = some b ∧ (∀ x, w.frozen? ⟨g, x, none⟩ = false) :=
  ⟨row_cell q 0 rfl, row_cell q 1 rfl, row_free q⟩

theorem box8 {w : World} {g : Nat} {a b c d e f h i : Value} {t : Nat} (q : w.heap[g]? = some (.cells #[a, b, c, d, e, f, h, i] t (0, 0))) :
    w.cell? ⟨g, 0, none⟩ = some a ∧ w.cell? ⟨g, 1, none⟩ = some b ∧ w.cell? ⟨g, 2, none⟩ = some c ∧ w.cell? ⟨g, 3, none⟩ = some d ∧ w.cell? ⟨g, 4, none⟩ = some e ∧ w.cell? ⟨g, 5, none⟩ = some f ∧ w.cell? ⟨g, 6, none⟩ = some h ∧ w.cell? ⟨g, 7, none⟩ = some i ∧ (∀ x, w.frozen? ⟨g, x, none⟩ = false) :=
  ⟨row_cell q 0 rfl, row_cell q 1 rfl, row_cell q 2 rfl, row_cell q 3 rfl, row_cell q 4 rfl, row_cell q 5 rfl, row_cell q 6 rfl, row_cell q 7 rfl, row_free q⟩

theorem box10 {w : World} {g : Nat} {a b c d e f h i j k : Value} {t : Nat} (q : w.heap[g]? = some (.cells #[a, b, c, d, e, f, h, i, j, k] t (0, 0))) :
    w.cell? ⟨g, 0, none⟩ = some a ∧ w.cell? ⟨g, 1, none⟩ = some b ∧ w.cell? ⟨g, 2, none⟩ = some c ∧ w.cell? ⟨g, 3, none⟩ = some d ∧ w.cell? ⟨g, 4, none⟩ = some e ∧ w.cell? ⟨g, 5, none⟩ = some f ∧ w.cell? ⟨g, 6, none⟩ = some h ∧ w.cell? ⟨g, 7, none⟩ = some i ∧ w.cell? ⟨g, 8, none⟩ = some j ∧ w.cell? ⟨g, 9, none⟩ = some k ∧ (∀ x, w.frozen? ⟨g, x, none⟩ = false) :=
  ⟨row_cell q 0 rfl, row_cell q 1 rfl, row_cell q 2 rfl, row_cell q 3 rfl, row_cell q 4 rfl, row_cell q 5 rfl, row_cell q 6 rfl, row_cell q 7 rfl, row_cell q 8 rfl, row_cell q 9 rfl, row_free q⟩

theorem Spans.later {w w' : World} (h : Spans w) (f : Frm Nil w w') : Spans w' := by
  obtain ⟨a0, a1, b0, b1, c0, c1, lt⟩ := h
  have k : ∀ (p : Addr) v, w.cell? p = some v → w'.cell? p = some v := fun p v hc => f.out hc (fun h => h)
  exact ⟨k _ _ a0, k _ _ a1, k _ _ b0, k _ _ b1, k _ _ c0, k _ _ c1, Nat.lt_of_lt_of_le lt f.size⟩

set_option maxRecDepth 100000 in
set_option maxHeartbeats 2000000 in
theorem e_check_bad (e : Ev) (w : World) (hk : e.kind < 1 ∨ 13 < e.kind) : Calls Tryd.prog 36 #[e.agg] w fun o w' => o = .returned (.int .i64 1) ∧ Frm Nil w w' := by
  obtain ⟨kind, g, chan, case_, value, mate, send, ok⟩ := e
  unfold Ev.agg
  dsimp only at hk ⊢
  by_cases h1 : kind < 1
  · go_enter Tryd.func36, Tryd.ntmps36
    go_wp2_with fail
    go_ret
    exact ⟨rfl, (Frm.refl _ _).alloc _⟩
  · have h2 : 13 < kind := by omega
    go_enter Tryd.func36, Tryd.ntmps36
    go_wp2_with fail
    go_ret
    exact ⟨rfl, (Frm.refl _ _).alloc _⟩


theorem sl_in {w : World} {L : List Piece} (H : SL w L) (a b n : Int) : Calls Tryd.prog 55 #[.agg #[.int .i64 a, .int .i64 b], .int .i64 n] w fun e w' => e = .returned (.bool (inn a b n)) ∧ SL w' L :=
  (e_in n a b w).mono fun _ _ q => ⟨q.1, H.later q.2⟩

theorem sl_odd {w : World} {L : List Piece} (H : SL w L) (e : Ev) : Calls Tryd.prog 56 #[e.agg] w fun o w' => o = .returned (.bool (oddF e)) ∧ SL w' L :=
  (e_odd e w).mono fun _ _ q => ⟨q.1, H.later q.2⟩

theorem sl_fields {w : World} {L : List Piece} (H : SL w L) (b : Nat) : Calls Tryd.prog 57 #[.pointer (some ⟨b, 0, none⟩)] w fun e w' => e = .returned (.agg #[.pointer (some ⟨b, 1, none⟩), .pointer (some ⟨b, 2, none⟩), .pointer (some ⟨b, 3, none⟩), .pointer (some ⟨b, 4, none⟩), .pointer (some ⟨b, 5, none⟩)]) ∧ SL w' L :=
  (e_fields b w).mono fun _ _ q => ⟨q.1, H.later q.2⟩

/-- ok behind the first k rounds. -/
def okAt (e : Ev) (s : Shp) (ok : Bool) (k : Nat) : Bool :=
  ok && (decide (k < 2) || inn s.c0 s.c1 e.chan) && (decide (k < 3) || inn s.k0 s.k1 e.case_) && (decide (k < 4) || inn s.v0 s.v1 e.value) && (decide (k < 5) || inn s.m0 s.m1 e.mate)

set_option maxRecDepth 100000 in
set_option maxHeartbeats 2000000 in
theorem e_check_ok (e : Ev) (w : World) (hs : Spans w) (h1 : ¬ e.kind < 1) (h2 : ¬ 13 < e.kind) : Calls Tryd.prog 36 #[e.agg] w fun o w' => o = .returned (.int .i64 (entF e)) ∧ Frm Nil w w' := by
  have ko := fun (w' : World) (f : Frm Nil w w') => e_of e.kind w' (hs.later f)
  have kd := fun (w' : World) (L : List Piece) (H : SL w' L) => sl_odd H e
  have H := SL.start w
  obtain ⟨kind, g, chan, case_, value, mate, send, ok⟩ := e
  obtain ⟨S, hS⟩ : ∃ S, shapeF kind = S := ⟨_, rfl⟩
  obtain ⟨D, hD⟩ : ∃ D, oddF ⟨kind, g, chan, case_, value, mate, send, ok⟩ = D := ⟨_, rfl⟩
  obtain ⟨R, hR⟩ : ∃ R, entF ⟨kind, g, chan, case_, value, mate, send, ok⟩ = R := ⟨_, rfl⟩
  unfold Ev.agg at kd ⊢
  unfold Shp.agg at ko
  dsimp only at h1 h2 ko kd ⊢
  rw [hS] at ko
  rw [hD] at kd
  rw [hR]
  have HR : R = if okAt ⟨kind, g, chan, case_, value, mate, send, ok⟩ S ((((if kind = 13 then inn (-1) (-1) g else inn 0 511 g) && (S.send || !send)) && (S.ok || !ok)) && !D) 5 = true then 0 else 4 := by
    rw [← hR]
    unfold entF okAt
    dsimp only
    rw [if_neg (by omega), hS, hD]
    simp
  obtain ⟨I, hI⟩ : ∃ I, (if kind = 13 then inn (-1) (-1) g else inn 0 511 g) = I := ⟨_, rfl⟩
  rw [hI] at HR
  have HQ := Lib.hid HR
  clear hR hS hD
  obtain ⟨s0, s1, s2, s3, s4, s5, s6, s7, ss, so⟩ := S
  dsimp only at ko HQ
  have KO := Lib.hid ko
  have KD := Lib.hid kd
  clear ko kd
  go_enter Tryd.func36, Tryd.ntmps36
  go_wp2_with fail
  refine (KO.out _ ((Frm.refl _ _).alloc _)).mono ?_
  rintro o w1 ⟨rfl, f1⟩
  have H1 := (H.alloc (.cells #[.int .i64 kind, .int .i64 g, .int .i64 chan, .int .i64 case_, .int .i64 value, .int .i64 mate, .bool send, .bool ok] 39)).later f1
  have hs1 := hs.later (((Frm.refl Nil w).alloc _).then f1)
  obtain ⟨ga0, ga1, gb0, gb1, gc0, gc1, glt⟩ := hs1
  have gl0 : 0 < w1.heap.size := by omega
  have gl1 : 1 < w1.heap.size := by omega
  obtain ⟨be, hbe⟩ : ∃ b, w.heap.size = b := ⟨_, rfl⟩
  rw [hbe] at H1
  simp only [hbe]
  clear hbe f1
  obtain ⟨d0, d1, d2, d3, d4, d5, d6, d7, df⟩ := box8 (H1.at 0 rfl)
  have dl := lt_of_block (H1.at 0 rfl)
  have KF := Lib.hid (fun (w' : World) (L : List Piece) (H : SL w' L) => sl_fields H be)
  have KI := Lib.hid (fun (w' : World) (L : List Piece) (H : SL w' L) (a b n : Int) => sl_in H a b n)
  rcases Decidable.em (kind = 13) with h13 | h13
  case' inl =>
    have K1 : ∀ (w' : World) (L : List Piece), SL w' L → Calls Tryd.prog 55 #[.agg #[.int .i64 (-1), .int .i64 (-1)], .int .i64 g] w' fun e w'' => e = .returned (.bool I) ∧ SL w'' L := by
      intro w' L H
      rw [← hI, if_pos h13]
      exact sl_in H _ _ _
    have e13 : (kind == 13) = true := beq_iff_eq.2 h13
    have HK1 := Lib.hid K1
    clear K1 hI h13
    go_upto_region 7 with (fail)
  case' inr =>
    have K1 : ∀ (w' : World) (L : List Piece), SL w' L → Calls Tryd.prog 55 #[.agg #[.int .i64 0, .int .i64 511], .int .i64 g] w' fun e w'' => e = .returned (.bool I) ∧ SL w'' L := by
      intro w' L H
      rw [← hI, if_neg h13]
      exact sl_in H _ _ _
    have e13 : (kind == 13) = false := beq_eq_false_iff_ne.2 h13
    have HK1 := Lib.hid K1
    clear K1 hI
    go_upto_region 7 with (fail)
  all_goals
    clear HR
    go_cut [5] (fun q5 wx => q5 = .bool (I && (ss || !send) && (so || !ok) && !D) ∧ SL wx [row w1.heap.size #[.int .i64 s0, .int .i64 s1, .int .i64 s2, .int .i64 s3, .int .i64 s4, .int .i64 s5, .int .i64 s6, .int .i64 s7, .bool ss, .bool so] 106, row be #[.int .i64 kind, .int .i64 g, .int .i64 chan, .int .i64 case_, .int .i64 value, .int .i64 mate, .bool send, .bool ok] 39, Old w])
    case first =>
      have H2 := (H1.alloc (.cells #[.int .i64 s0, .int .i64 s1, .int .i64 s2, .int .i64 s3, .int .i64 s4, .int .i64 s5, .int .i64 s6, .int .i64 s7, .bool ss, .bool so] 106))
      go_wp2_with fail
      refine (HK1.out _ _ (H2.allocd _)).mono ?_
      rintro o w2 ⟨rfl, H3⟩
      obtain ⟨a0, a1, a2, a3, a4, a5, a6, a7, a8, a9, af⟩ := box10 (H3.at 0 rfl)
      have al := lt_of_block (H3.at 0 rfl)
      obtain ⟨d0, d1, d2, d3, d4, d5, d6, d7, df⟩ := box8 (H3.at 1 rfl)
      have dl := lt_of_block (H3.at 1 rfl)
      cases I
      · go_wp2_with fail
        go_meet
        exact ⟨rfl, H3⟩
      · cases ss <;> cases send <;> cases so <;> cases ok
        all_goals
          go_wp2_with ((with_reducible refine (KD.out _ _ H3).mono ?_); rintro o w3 ⟨rfl, H4⟩)
          go_meet
          first | exact ⟨rfl, H4⟩ | exact ⟨rfl, H3⟩
    case rest =>
      obtain ⟨rfl, H2⟩ := hcut
      go_wp2_with fail
      refine (KF.out _ _ H2).mono ?_
      rintro o w2 ⟨rfl, H3⟩
      obtain ⟨O, hO⟩ : ∃ O, (I && (ss || !send) && (so || !ok) && !D) = O := ⟨_, rfl⟩
      have HQ' := HQ.out
      rw [hO] at HQ'
      have HP := Lib.hid HQ'
      simp only [hO]
      clear HQ' HQ hO
      obtain ⟨bs, hbs⟩ : ∃ b, w1.heap.size = b := ⟨_, rfl⟩
      rw [hbs] at H3
      simp only [hbs]
      clear hbs
      go_wp2_with fail
      go_loopw [5, 52] (fun q5 i wr => ∃ k : Nat, k ≤ 5 ∧ i = .int .i64 k ∧ q5 = .bool (okAt ⟨kind, g, chan, case_, value, mate, send, ok⟩ ⟨s0, s1, s2, s3, s4, s5, s6, s7, ss, so⟩ O k) ∧ SL wr [row bs #[.int .i64 s0, .int .i64 s1, .int .i64 s2, .int .i64 s3, .int .i64 s4, .int .i64 s5, .int .i64 s6, .int .i64 s7, .bool ss, .bool so] 106, row be #[.int .i64 kind, .int .i64 g, .int .i64 chan, .int .i64 case_, .int .i64 value, .int .i64 mate, .bool send, .bool ok] 39, Old w]) (fun _ i _ => 5 - (intOf i).toNat)
      case atStart => exact ⟨0, by omega, rfl, by simp [okAt], H3⟩
      case round =>
        obtain ⟨k, hk, rfl, rfl, H4⟩ := hrel
        obtain ⟨a0, a1, a2, a3, a4, a5, a6, a7, a8, a9, af⟩ := box10 (H4.at 0 rfl)
        have al := lt_of_block (H4.at 0 rfl)
        obtain ⟨d0, d1, d2, d3, d4, d5, d6, d7, df⟩ := box8 (H4.at 1 rfl)
        have dl := lt_of_block (H4.at 1 rfl)
        have hk' : k = 0 ∨ k = 1 ∨ k = 2 ∨ k = 3 ∨ k = 4 ∨ k = 5 := by omega
        rcases hk' with rfl | rfl | rfl | rfl | rfl | rfl
        · have ix : ∀ w, (Instr.index 110 (.agg #[.pointer (some ⟨be, 1, none⟩), .pointer (some ⟨be, 2, none⟩), .pointer (some ⟨be, 3, none⟩), .pointer (some ⟨be, 4, none⟩), .pointer (some ⟨be, 5, none⟩)]) (.int .i64 0)).run Tryd.prog w = .ok (.pointer (some ⟨be, 1, none⟩)) w := fun _ => by kernel_rfl
          obtain ⟨B, hB⟩ : ∃ B, okAt ⟨kind, g, chan, case_, value, mate, send, ok⟩ ⟨s0, s1, s2, s3, s4, s5, s6, s7, ss, so⟩ O 0 = B := ⟨_, rfl⟩
          have hB1 : okAt ⟨kind, g, chan, case_, value, mate, send, ok⟩ ⟨s0, s1, s2, s3, s4, s5, s6, s7, ss, so⟩ O 1 = B := by rw [← hB]; simp [okAt]
          rw [hB]
          have HB := Lib.hid hB1
          clear hB hB1
          cases B
          · go_wp2_with fail
            go_region
            go_wp2_with fail
            go_roundw
            case rel => exact ⟨1, by omega, by go_num, by rw [HB.out], H4.drew⟩
            case measure => simp [intOf] <;> omega
          · go_wp2_with fail
            go_region
            go_wp2_with fail
            go_roundw
            case rel => exact ⟨1, by omega, by go_num, by rw [HB.out], H4.drew⟩
            case measure => simp [intOf] <;> omega
        · have ix : ∀ w, (Instr.index 110 (.agg #[.pointer (some ⟨be, 1, none⟩), .pointer (some ⟨be, 2, none⟩), .pointer (some ⟨be, 3, none⟩), .pointer (some ⟨be, 4, none⟩), .pointer (some ⟨be, 5, none⟩)]) (.int .i64 1)).run Tryd.prog w = .ok (.pointer (some ⟨be, 2, none⟩)) w := fun _ => by kernel_rfl
          have hw : IntKind.i64.wrap (1 - 1) = 0 := by rfl
          have hw0 : IntKind.i64.wrap 0 = 0 := by rfl
          obtain ⟨B, hB⟩ : ∃ B, okAt ⟨kind, g, chan, case_, value, mate, send, ok⟩ ⟨s0, s1, s2, s3, s4, s5, s6, s7, ss, so⟩ O 1 = B := ⟨_, rfl⟩
          have hB1 : okAt ⟨kind, g, chan, case_, value, mate, send, ok⟩ ⟨s0, s1, s2, s3, s4, s5, s6, s7, ss, so⟩ O 2 = (B && inn s0 s1 chan) := by rw [← hB]; simp [okAt]
          rw [hB]
          have HB := Lib.hid hB1
          clear hB hB1
          cases B
          · go_wp2_with fail
            go_region
            go_wp2_with fail
            go_roundw
            case rel => exact ⟨2, by omega, by go_num, by rw [HB.out]; rfl, H4.drew⟩
            case measure => simp [intOf] <;> omega
          · go_wp2_with fail
            go_region_held3 (fun w' => w'.cell? ⟨bs, 0, none⟩ = some (.int .i64 s0) ∧ w'.cell? ⟨bs, 1, none⟩ = some (.int .i64 s1) ∧ w'.cell? ⟨be, 2, none⟩ = some (.int .i64 chan)) (first | go_keep | (go_split_ands; refine ⟨?_, ?_, ?_⟩ <;> assumption)) ((go_at_call 55; (with_reducible refine (KI.out _ _ H4.drew _ _ _).mono ?_); rintro o w3 ⟨rfl, H5⟩; obtain ⟨x0, x1, x2, x3, x4, x5, x6, x7, x8, x9, xf⟩ := box10 (H5.at 0 rfl); obtain ⟨y0, y1, y2, y3, y4, y5, y6, y7, yf⟩ := box8 (H5.at 1 rfl)))
            go_wp2_with fail
            go_roundw
            case rel => exact ⟨2, by omega, by go_num, by rw [HB.out, Bool.true_and], H5⟩
            case measure => simp [intOf] <;> omega
        · have ix : ∀ w, (Instr.index 110 (.agg #[.pointer (some ⟨be, 1, none⟩), .pointer (some ⟨be, 2, none⟩), .pointer (some ⟨be, 3, none⟩), .pointer (some ⟨be, 4, none⟩), .pointer (some ⟨be, 5, none⟩)]) (.int .i64 2)).run Tryd.prog w = .ok (.pointer (some ⟨be, 3, none⟩)) w := fun _ => by kernel_rfl
          have hw : IntKind.i64.wrap (2 - 1) = 1 := by rfl
          have hw0 : IntKind.i64.wrap 1 = 1 := by rfl
          obtain ⟨B, hB⟩ : ∃ B, okAt ⟨kind, g, chan, case_, value, mate, send, ok⟩ ⟨s0, s1, s2, s3, s4, s5, s6, s7, ss, so⟩ O 2 = B := ⟨_, rfl⟩
          have hB1 : okAt ⟨kind, g, chan, case_, value, mate, send, ok⟩ ⟨s0, s1, s2, s3, s4, s5, s6, s7, ss, so⟩ O 3 = (B && inn s2 s3 case_) := by rw [← hB]; simp [okAt]
          rw [hB]
          have HB := Lib.hid hB1
          clear hB hB1
          cases B
          · go_wp2_with fail
            go_region
            go_wp2_with fail
            go_roundw
            case rel => exact ⟨3, by omega, by go_num, by rw [HB.out]; rfl, H4.drew⟩
            case measure => simp [intOf] <;> omega
          · go_wp2_with fail
            go_region_held3 (fun w' => w'.cell? ⟨bs, 2, none⟩ = some (.int .i64 s2) ∧ w'.cell? ⟨bs, 3, none⟩ = some (.int .i64 s3) ∧ w'.cell? ⟨be, 3, none⟩ = some (.int .i64 case_)) (first | go_keep | (go_split_ands; refine ⟨?_, ?_, ?_⟩ <;> assumption)) ((go_at_call 55; (with_reducible refine (KI.out _ _ H4.drew _ _ _).mono ?_); rintro o w3 ⟨rfl, H5⟩; obtain ⟨x0, x1, x2, x3, x4, x5, x6, x7, x8, x9, xf⟩ := box10 (H5.at 0 rfl); obtain ⟨y0, y1, y2, y3, y4, y5, y6, y7, yf⟩ := box8 (H5.at 1 rfl)))
            go_wp2_with fail
            go_roundw
            case rel => exact ⟨3, by omega, by go_num, by rw [HB.out, Bool.true_and], H5⟩
            case measure => simp [intOf] <;> omega
        · have ix : ∀ w, (Instr.index 110 (.agg #[.pointer (some ⟨be, 1, none⟩), .pointer (some ⟨be, 2, none⟩), .pointer (some ⟨be, 3, none⟩), .pointer (some ⟨be, 4, none⟩), .pointer (some ⟨be, 5, none⟩)]) (.int .i64 3)).run Tryd.prog w = .ok (.pointer (some ⟨be, 4, none⟩)) w := fun _ => by kernel_rfl
          have hw : IntKind.i64.wrap (3 - 1) = 2 := by rfl
          have hw0 : IntKind.i64.wrap 2 = 2 := by rfl
          obtain ⟨B, hB⟩ : ∃ B, okAt ⟨kind, g, chan, case_, value, mate, send, ok⟩ ⟨s0, s1, s2, s3, s4, s5, s6, s7, ss, so⟩ O 3 = B := ⟨_, rfl⟩
          have hB1 : okAt ⟨kind, g, chan, case_, value, mate, send, ok⟩ ⟨s0, s1, s2, s3, s4, s5, s6, s7, ss, so⟩ O 4 = (B && inn s4 s5 value) := by rw [← hB]; simp [okAt]
          rw [hB]
          have HB := Lib.hid hB1
          clear hB hB1
          cases B
          · go_wp2_with fail
            go_region
            go_wp2_with fail
            go_roundw
            case rel => exact ⟨4, by omega, by go_num, by rw [HB.out]; rfl, H4.drew⟩
            case measure => simp [intOf] <;> omega
          · go_wp2_with fail
            go_region_held3 (fun w' => w'.cell? ⟨bs, 4, none⟩ = some (.int .i64 s4) ∧ w'.cell? ⟨bs, 5, none⟩ = some (.int .i64 s5) ∧ w'.cell? ⟨be, 4, none⟩ = some (.int .i64 value)) (first | go_keep | (go_split_ands; refine ⟨?_, ?_, ?_⟩ <;> assumption)) ((go_at_call 55; (with_reducible refine (KI.out _ _ H4.drew _ _ _).mono ?_); rintro o w3 ⟨rfl, H5⟩; obtain ⟨x0, x1, x2, x3, x4, x5, x6, x7, x8, x9, xf⟩ := box10 (H5.at 0 rfl); obtain ⟨y0, y1, y2, y3, y4, y5, y6, y7, yf⟩ := box8 (H5.at 1 rfl)))
            go_wp2_with fail
            go_roundw
            case rel => exact ⟨4, by omega, by go_num, by rw [HB.out, Bool.true_and], H5⟩
            case measure => simp [intOf] <;> omega
        · have ix : ∀ w, (Instr.index 110 (.agg #[.pointer (some ⟨be, 1, none⟩), .pointer (some ⟨be, 2, none⟩), .pointer (some ⟨be, 3, none⟩), .pointer (some ⟨be, 4, none⟩), .pointer (some ⟨be, 5, none⟩)]) (.int .i64 4)).run Tryd.prog w = .ok (.pointer (some ⟨be, 5, none⟩)) w := fun _ => by kernel_rfl
          have hw : IntKind.i64.wrap (4 - 1) = 3 := by rfl
          have hw0 : IntKind.i64.wrap 3 = 3 := by rfl
          obtain ⟨B, hB⟩ : ∃ B, okAt ⟨kind, g, chan, case_, value, mate, send, ok⟩ ⟨s0, s1, s2, s3, s4, s5, s6, s7, ss, so⟩ O 4 = B := ⟨_, rfl⟩
          have hB1 : okAt ⟨kind, g, chan, case_, value, mate, send, ok⟩ ⟨s0, s1, s2, s3, s4, s5, s6, s7, ss, so⟩ O 5 = (B && inn s6 s7 mate) := by rw [← hB]; simp [okAt]
          rw [hB]
          have HB := Lib.hid hB1
          clear hB hB1
          cases B
          · go_wp2_with fail
            go_region
            go_wp2_with fail
            go_roundw
            case rel => exact ⟨5, by omega, by go_num, by rw [HB.out]; rfl, H4.drew⟩
            case measure => simp [intOf] <;> omega
          · go_wp2_with fail
            go_region_held3 (fun w' => w'.cell? ⟨bs, 6, none⟩ = some (.int .i64 s6) ∧ w'.cell? ⟨bs, 7, none⟩ = some (.int .i64 s7) ∧ w'.cell? ⟨be, 5, none⟩ = some (.int .i64 mate)) (first | go_keep | (go_split_ands; refine ⟨?_, ?_, ?_⟩ <;> assumption)) ((go_at_call 55; (with_reducible refine (KI.out _ _ H4.drew _ _ _).mono ?_); rintro o w3 ⟨rfl, H5⟩; obtain ⟨x0, x1, x2, x3, x4, x5, x6, x7, x8, x9, xf⟩ := box10 (H5.at 0 rfl); obtain ⟨y0, y1, y2, y3, y4, y5, y6, y7, yf⟩ := box8 (H5.at 1 rfl)))
            go_wp2_with fail
            go_roundw
            case rel => exact ⟨5, by omega, by go_num, by rw [HB.out, Bool.true_and], H5⟩
            case measure => simp [intOf] <;> omega
        · obtain ⟨B, hB⟩ : ∃ B, okAt ⟨kind, g, chan, case_, value, mate, send, ok⟩ ⟨s0, s1, s2, s3, s4, s5, s6, s7, ss, so⟩ O 5 = B := ⟨_, rfl⟩
          have HQ' := HP.out
          rw [hB] at HQ' ⊢
          have HB := Lib.hid HQ'
          clear hB HQ'
          cases B
          all_goals
            go_wp2_with fail
            go_ret
            exact ⟨by rw [HB.out]; rfl, SL.old H4.tl.tl⟩

theorem e_check (e : Ev) (w : World) (hs : Spans w) : Calls Tryd.prog 36 #[e.agg] w fun o w' => o = .returned (.int .i64 (entF e)) ∧ Frm Nil w w' := by
  by_cases h : e.kind < 1 ∨ 13 < e.kind
  · have : entF e = 1 := by unfold entF; rw [if_pos h]
    rw [this]
    exact e_check_bad e w h
  · exact e_check_ok e w hs (by omega) (by omega)

end Go.Proofs.YtoejhelhgfipkaaDoor
