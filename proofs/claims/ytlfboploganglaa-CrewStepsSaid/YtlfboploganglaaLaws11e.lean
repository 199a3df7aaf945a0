/- CrewSteps: every crew, step by step, as the reference tells. -/
import Derived.Test.YtlfboploganglaaLaws11d
import Derived.Test.YtlfboploganglaaPlain
import Derived.Deep.RegionHeld3
namespace Go.Proofs.Ytlfboploganglaa
set_option linter.unusedVariables false
set_option linter.unusedSimpArgs false
open Go.RowKit

set_option maxHeartbeats 400000 in
theorem crewSteps_out {a : Option Addr} {cap n : Nat} (hl : 300 < n) (hm : n ≤ 9223372036854775807) (w : World) :
    Calls Try.prog 5 #[.slice a n cap] w (Yes w) := by
  go_enter Try.func5, Try.ntmps5
  go_wp2_with fail
  refine (crew_new w).mono ?_
  rintro e w1 ⟨c, rfl, h1', f1⟩
  go_wp2_with fail
  refine (two_any w1).mono ?_
  rintro e w2 ⟨rfl, f2⟩
  go_wp2_with fail
  go_ret
  exact ⟨rfl, f1.then f2⟩

theorem Both.far {B : Nat} {w w' : World} {S T U : Nat → Prop} {c d : Nat} {M : List One} (h : Both B w S T c d M) (f : Frm U w w') (hU : ∀ k, U k → ¬ S k ∧ ¬ T k) : Both B w' S T c d M :=
  ⟨(h.cr.bound.move (fun k hk => f.block k hk.2 (fun hu => (hU k hu).1 hk.1))).mono (fun _ hk => hk.1), (h.rf.bound.move (fun k hk => f.block k hk.2 (fun hu => (hU k hu).2 hk.1))).mono (fun _ hk => hk.1), h.zs.later f, h.zt.later f, h.ap⟩

theorem blk_set3 {w : World} {g : Nat} {t : TypeId} {cs : Array Value} (h : w.heap[g]? = some (.cells cs t (0, 0))) (i : Nat) (u : Value) : (w.setCell ⟨g, i, none⟩ u).heap[g]? = some (.cells (cs.setIfInBounds i u) t (0, 0)) := by
  simp [World.setCell, Array.getElem?_modify, h]

theorem has_eq {w : World} {T : Nat → Prop} {c : Nat} {L : List One} (h : RefAt w T c L) (g st : Int) (t : Bool) (hF : stateF L g = (st, t)) :
    Calls Try.prog 20 #[.pointer (some ⟨c, 0, none⟩), .int .i64 g] w fun e w' => e = .returned (.bool t) ∧ Frm Nil w w' := by
  have := has_any h g
  rw [hF] at this
  exact this

set_option maxRecDepth 100000 in
set_option maxHeartbeats 8000000 in
theorem crewSteps_in {a : Option Addr} {cap : Nat} {L : List Step} {w : World} (hl : L.length ≤ 300) (hrd : Rd w 2 a L.length (L.flatMap Step.cells)) :
    Calls Try.prog 5 #[.slice a L.length cap] w (Yes w) := by
  go_enter Try.func5, Try.ntmps5
  go_wp2_with fail
  refine (crew_new w).mono ?_
  rintro e w1 ⟨c, rfl, h1', f1⟩
  go_wp2_with fail
  have z1 := Zone.first f1
  have hstart : Both w.heap.size (w1.alloc (.cells #[.slice none 0 0] 42)) (New Nil w w1) (fun k => k = w1.heap.size) c w1.heap.size [] :=
    ⟨h1'.alloc _, ⟨_, heap_alloc_new w1 _, World.ownsRow_nil _ _ _ _, rfl, fun k hk => by cases hk⟩, z1.alloc _, ⟨fun k hk => by subst hk; exact f1.size, fun k hk => by subst hk; simp⟩, fun k hk ht => by subst ht; exact Nat.lt_irrefl _ (z1.hi _ hk)⟩
  have fstart := f1.alloc (.cells #[.slice none 0 0] 42)
  obtain ⟨d, hd⟩ : ∃ d, w1.heap.size = d := ⟨_, rfl⟩
  rw [hd] at hstart ⊢
  clear hd
  go_loopw [30] (fun i wr => ∃ (k : Nat) (M : List One) (S T : Nat → Prop), k ≤ L.length ∧ i = .int .i64 k ∧ Frm Nil w wr ∧ Both w.heap.size wr S T c d M ∧ M.length ≤ k ∧ Small M k) (fun i _ => L.length - (intOf i).toNat)
  case atStart => exact ⟨0, [], _, _, Nat.zero_le _, rfl, fstart, hstart, Nat.le_refl _, fun x hx => (by cases hx)⟩
  case round =>
    obtain ⟨k, M, S, T, hk, rfl, hfr, hb, hMl, hMs⟩ := hrel
    by_cases hlt : k < L.length
    · obtain ⟨b, off, rfl, hbl, hcells⟩ := step_at hrd (by omega)
      obtain ⟨c1, c2⟩ := hcells k hlt
      rw [← hfr.cell (p := ⟨b, off + k * 2, none⟩) hbl id] at c1
      rw [← hfr.cell (p := ⟨b, off + k * 2 + 1, none⟩) hbl id] at c2
      obtain ⟨s, hs⟩ : ∃ s, L[k] = s := ⟨_, rfl⟩
      rw [hs] at c1 c2
      have hl' := stepF_length M s
      have hs' := stepF_small hMs (by omega) s
      have hdo := fun (w' : World) (S T : Nat → Prop) (h : Both w.heap.size w' S T c d M) (hB : w.heap.size ≤ w'.heap.size) => does_any h hB (by omega) (fun x hx => ⟨(hMs x hx).1, by have := (hMs x hx).2; omega⟩) s
      obtain ⟨M', hM'⟩ : ∃ M', (stepF M s).2 = M' := ⟨_, rfl⟩
      rw [hM'] at hl' hs' hdo
      obtain ⟨what, sg⟩ := s
      obtain ⟨st, t, hst⟩ : ∃ st t, stateF M' sg = (st, t) := ⟨_, _, rfl⟩
      obtain ⟨pr, pl, t', hat⟩ : ∃ pr pl t', atF M' sg = (pr, pl, t') := ⟨_, _, _, rfl⟩
      have HD := Lib.hid hdo
      have HST := Lib.hid hst
      have HAT := Lib.hid hat
      clear hcells hs hdo hM' hst hat
      go_wp2_with fail
      refine (HD.out _ S T (hb.later ((Frm.refl _ _).alloc _)) (Nat.le_trans hfr.size (by simp))).mono ?_
      rintro e w2 ⟨rfl, S', T', hb2, f2⟩
      have hbx : w2.cell? ⟨wr.heap.size, 1, none⟩ = some (.int .i64 sg) := f2.out (cell_new_row (w := wr) 1) (fun hk => hk.elim (fun h => Nat.lt_irrefl _ (hb.zs.hi _ h)) (fun h => Nat.lt_irrefl _ (hb.zt.hi _ h)))
      have f2' : Frm Nil w w2 := (hfr.alloc _).trans f2 (fun x hx hh => hh.elim (fun h => by have := hb.zs.lo x h; omega) (fun h => by have := hb.zt.lo x h; omega))
      clear f2
      go_wp2_with fail
      refine (state_eq hb2.cr sg st t HST.out).mono ?_
      rintro e w3 ⟨rfl, rfl⟩
      go_wp2_with fail
      refine (at_eq hb2.cr sg pr pl t' HAT.out).mono ?_
      rintro e w3 ⟨rfl, _, f3⟩
      have hb3 := hb2.later f3
      have f3' := f2'.then f3
      have hbx3 := f3.out hbx (fun h => h)
      have hlt3 := World.block_lt_of_cell? w3 _ hbx3
      dsimp only at hlt3
      have hwq : wr.heap.size ≠ w3.heap.size := by omega
      obtain ⟨bq, hbq⟩ : ∃ bq, wr.heap.size = bq := ⟨_, rfl⟩
      rw [hbq] at hbx3 hlt3 hwq ⊢
      clear hbq
      clear f3 f2' hb2 hfr hbx
      cases t with
      | false =>
        have hsg : ¬ (0 ≤ sg ∧ sg < M'.length) := fun hg => by
          obtain ⟨j, rfl⟩ := Int.eq_ofNat_of_zero_le hg.1
          have := HST.out
          rw [stateF_at (by omega)] at this
          simp at this
        obtain rfl : st = 0 := by have := HST.out; rw [stateF_none hsg] at this; injection this with h _; exact h.symm
        obtain ⟨rfl, rfl, rfl⟩ : pr = 0 ∧ pl = 0 ∧ t' = false := by
          have := HAT.out
          rw [atF_none hsg] at this
          injection this with h1 h2
          injection h2 with h2 h3
          exact ⟨h1.symm, h2.symm, h3.symm⟩
        clear HAT hsg
        go_wp2_with fail
        refine (has_eq (hb3.later (by repeat (first | exact Frm.refl _ _ | apply Frm.drewN | apply Frm.drew | apply Frm.alloc | (refine Frm.then ?_ (by assumption))))).rf sg 0 false HST.out).mono ?_
        rintro e w4 ⟨rfl, f4⟩
        have hb4 := (hb3.later (w' := w4) (by repeat (first | exact Frm.refl _ _ | apply Frm.drewN | apply Frm.drew | apply Frm.alloc | (refine Frm.then ?_ (by assumption)))))
        have f4' : Frm Nil w w4 := f3'.then (by repeat (first | exact Frm.refl _ _ | apply Frm.drewN | apply Frm.drew | apply Frm.alloc | (refine Frm.then ?_ (by assumption))))
        have hbx4 : w4.cell? ⟨bq, 1, none⟩ = some (.int .i64 sg) := f4.out (((Frm.refl Nil w3).alloc _).out hbx3 (fun h => h)) (fun h => h)
        have hx := fun i => cell_new_row (w := w3) (c := #[.int .i64 0, .int .i64 0, .int .i64 0]) (t := 47) i
        have hx0 : w4.cell? ⟨w3.heap.size, 0, none⟩ = some (.int .i64 0) := f4.out (hx 0) (fun h => h)
        have hx1 : w4.cell? ⟨w3.heap.size, 1, none⟩ = some (.int .i64 0) := f4.out (hx 1) (fun h => h)
        have hx2 : w4.cell? ⟨w3.heap.size, 2, none⟩ = some (.int .i64 0) := f4.out (hx 2) (fun h => h)
        obtain ⟨bx, hbxe⟩ : ∃ bx, w3.heap.size = bx := ⟨_, rfl⟩
        rw [hbxe] at hx0 hx1 hx2 ⊢
        clear hx hbxe f4 hb3 f3' hbx3 hlt3 hwq
        obtain ⟨da, dc, hcd, _, hmd, _⟩ := hb4.rf.cells
        unfold maxLen at hmd
        have hML : M'.length ≤ 512 := by omega
        have kO := fun (w : World) (h : CrewAt w S' c M') => crew_over h hML
        have kO2 := fun (w : World) (h : RefAt w T' d M') => rover_any h
        obtain ⟨ov, hov⟩ : ∃ ov, overF M' = ov := ⟨_, rfl⟩
        rw [hov] at kO kO2
        have KO := Lib.hid kO
        have KO2 := Lib.hid kO2
        clear kO kO2 hov
        go_wp2_with fail
        go_region_held3 (fun w' => w'.cell? ⟨bq, 1, none⟩ = some (.int .i64 sg) ∧ w'.cell? ⟨bx, 0, none⟩ = some (.int .i64 0) ∧ w'.cell? ⟨bx, 1, none⟩ = some (.int .i64 0) ∧ w'.cell? ⟨bx, 2, none⟩ = some (.int .i64 0) ∧ w'.cell? ⟨d, 0, none⟩ = some (.slice da M'.length dc))
          (first | go_keep | (go_split_ands; refine ⟨?_, ?_, ?_, ?_, ?_⟩ <;> exact Frm.out (by assumption) (by assumption) (fun h => h)))
          ((first
          | (go_at_call 20; refine (has_eq (T := T') ?_ sg 0 false HST.out).mono ?_; exact (hb4.later (by repeat (first | exact Frm.refl _ _ | apply Frm.drewN | apply Frm.drew | apply Frm.alloc | (refine Frm.then ?_ (by assumption))))).rf; rintro e w5 ⟨rfl, f5⟩)
          | (go_at_call 11; refine (crew_len (S := S') (L := M') ?_).mono ?_; exact (hb4.later (by repeat (first | exact Frm.refl _ _ | apply Frm.drewN | apply Frm.drew | apply Frm.alloc | (refine Frm.then ?_ (by assumption))))).cr; rintro e w6 ⟨rfl, rfl⟩)
          | (go_at_call 21; refine (KO.out _ ?_).mono ?_; exact (hb4.later (by repeat (first | exact Frm.refl _ _ | apply Frm.drewN | apply Frm.drew | apply Frm.alloc | (refine Frm.then ?_ (by assumption))))).cr; rintro e w7 ⟨rfl, f7⟩)
          | (go_at_call 22; refine (KO2.out _ ?_).mono ?_; exact (hb4.later (by repeat (first | exact Frm.refl _ _ | apply Frm.drewN | apply Frm.drew | apply Frm.alloc | (refine Frm.then ?_ (by assumption))))).rf; rintro e w8 ⟨rfl, f8⟩)
          | (go_at_call 12; refine (crew_able (S := S') (L := M') ?_ hML).mono ?_; exact (hb4.later (by repeat (first | exact Frm.refl _ _ | apply Frm.drewN | apply Frm.drew | apply Frm.alloc | (refine Frm.then ?_ (by assumption))))).cr; rintro e w9 ⟨a1, cap1, n1, rfl, r1, f9⟩)
          | (go_at_call 24; refine (rable_any (S := T') (L := M') ?_ hML).mono ?_; exact (hb4.later (by repeat (first | exact Frm.refl _ _ | apply Frm.drewN | apply Frm.drew | apply Frm.alloc | (refine Frm.then ?_ (by assumption))))).rf; rintro e w10 ⟨a2, cap2, n2, rfl, r2, f10⟩)
          | (go_at_call 23; refine (ints_any _ _ _ _ _ _ (ableF M') (ableF M') _ ?_ ?_).mono ?_; exact r1.nil (by repeat (first | exact Frm.refl _ _ | apply Frm.drewN | apply Frm.drew | apply Frm.alloc | (refine Frm.then ?_ (by assumption)))); exact r2.nil (by repeat (first | exact Frm.refl _ _ | apply Frm.drewN | apply Frm.drew | apply Frm.alloc | (refine Frm.then ?_ (by assumption)))); rintro e w11 ⟨rfl, f11⟩)))
        go_wp2_with fail
        go_roundw
        case rel => exact ⟨k + 1, M', S', T', by omega, by go_num, f4'.then (by repeat (first | exact Frm.refl _ _ | apply Frm.drewN | apply Frm.drew | apply Frm.alloc | (refine Frm.then ?_ (by assumption)))), hb4.later (by repeat (first | exact Frm.refl _ _ | apply Frm.drewN | apply Frm.drew | apply Frm.alloc | (refine Frm.then ?_ (by assumption)))), by omega, hs'⟩
        case measure => simp [intOf]; omega
      | true =>
        have hsg : 0 ≤ sg ∧ sg < M'.length := Decidable.byContradiction fun hg => by
          have := HST.out
          rw [stateF_none hg] at this
          simp at this
        obtain ⟨j, rfl⟩ := Int.eq_ofNat_of_zero_le hsg.1
        have hj : j < M'.length := by omega
        have e1 := HST.out
        have e2 := HAT.out
        rw [stateF_at hj] at e1
        rw [atF_some hj] at e2
        obtain rfl : M'[j].state = st := by injection e1
        obtain ⟨rfl, rfl, rfl⟩ : M'[j].program = pr ∧ M'[j].place = pl ∧ true = t' := by
          injection e2 with h1 h2
          injection h2 with h2 h3
          exact ⟨h1, h2, h3⟩
        clear e1 e2 hsg HAT
        go_wp2_with fail
        refine (has_eq (hb3.later (by repeat (first | exact Frm.refl _ _ | apply Frm.drewN | apply Frm.drew | apply Frm.alloc | (refine Frm.then ?_ (by assumption))))).rf j _ true HST.out).mono ?_
        rintro e w4 ⟨rfl, f4⟩
        have hb4 := (hb3.later (w' := w4) (by repeat (first | exact Frm.refl _ _ | apply Frm.drewN | apply Frm.drew | apply Frm.alloc | (refine Frm.then ?_ (by assumption)))))
        have f4' : Frm Nil w w4 := f3'.then (by repeat (first | exact Frm.refl _ _ | apply Frm.drewN | apply Frm.drew | apply Frm.alloc | (refine Frm.then ?_ (by assumption))))
        have hbx4 : w4.cell? ⟨bq, 1, none⟩ = some (.int .i64 j) := f4.out (((Frm.refl Nil w3).alloc _).out hbx3 (fun h => h)) (fun h => h)
        have hxb : w4.heap[w3.heap.size]? = some (.cells #[.int .i64 0, .int .i64 0, .int .i64 0] 47 (0, 0)) := f4.blk (heap_alloc_new w3 _) (fun h => h)
        have hbq : bq < w4.heap.size := Nat.lt_trans hlt3 (lt_of_block hxb)
        have hSb := hb3.zs.hi
        have hTb := hb3.zt.hi
        have hbxw := f3'.size
        obtain ⟨bx, hbxe⟩ : ∃ bx, w3.heap.size = bx := ⟨_, rfl⟩
        rw [hbxe] at hxb hwq hSb hTb hbxw ⊢
        clear hbxe f4 hb3 f3' hbx3 hlt3
        have hTd0 : T' d := by obtain ⟨_, _, _, h, _⟩ := hb4.rf; exact h
        obtain ⟨da, dc, hcd, _, hmd, hcl⟩ := hb4.rf.cells
        unfold maxLen at hmd
        obtain ⟨db, rfl, hTd, hdd, _, hcl⟩ := hcl (by omega)
        obtain ⟨hp0, hp1, hp2⟩ := hcl j hj
        clear hcl
        obtain ⟨pr, hpr⟩ : ∃ pr, M'[j].program = pr := ⟨_, rfl⟩
        obtain ⟨pl, hpl⟩ : ∃ pl, M'[j].place = pl := ⟨_, rfl⟩
        obtain ⟨st, hst⟩ : ∃ st, M'[j].state = st := ⟨_, rfl⟩
        rw [hst] at HST hp2 ⊢
        rw [hpr] at hp0 ⊢
        rw [hpl] at hp1 ⊢
        clear hpr hpl hst
        have hx0 : w4.cell? ⟨bx, 0, none⟩ = some (.int .i64 0) := cell_of_row _ _ 0 _ _ _ hxb
        have hx1 : w4.cell? ⟨bx, 1, none⟩ = some (.int .i64 0) := cell_of_row _ _ 1 _ _ _ hxb
        have hx2 : w4.cell? ⟨bx, 2, none⟩ = some (.int .i64 0) := cell_of_row _ _ 2 _ _ _ hxb
        have hxf : ∀ i, w4.frozen? ⟨bx, i, none⟩ = false := fun i => by simp [World.frozen?, hxb]
        go_wp2_with fail
        go_region
        have hbxS : ∀ k, k = bx → ¬ S' k ∧ ¬ T' k := fun k hk => ⟨fun h => by have := hSb k h; omega, fun h => by have := hTb k h; omega⟩
        obtain ⟨w5, hw5⟩ : ∃ w5, (((w4.setCell ⟨bx, 0, none⟩ (.int .i64 pr)).setCell ⟨bx, 1, none⟩ (.int .i64 pl)).setCell ⟨bx, 2, none⟩ (.int .i64 st)).drew = w5 := ⟨_, rfl⟩
        have f45 : Frm (fun k => k = bx) w4 w5 := by
          have r0 : Frm (fun k => k = bx) w4 w4 := Frm.refl _ _
          have r1 := r0.setCell (p := ⟨bx, 0, none⟩) (fun _ => rfl) (.int .i64 pr)
          have r2 := r1.setCell (p := ⟨bx, 1, none⟩) (fun _ => rfl) (.int .i64 pl)
          have r3 := r2.setCell (p := ⟨bx, 2, none⟩) (fun _ => rfl) (.int .i64 st)
          rw [← hw5]
          exact r3.drew
        have hb5 : Both w.heap.size w5 S' T' c d M' := hb4.far f45 hbxS
        have f5' : Frm Nil w w5 := f4'.trans f45 (fun x hx he => by omega)
        have hbx4 : w5.cell? ⟨bq, 1, none⟩ = some (.int .i64 j) := f45.out hbx4 (fun h => hwq h)
        have hxb5 : w5.heap[bx]? = some (.cells #[.int .i64 pr, .int .i64 pl, .int .i64 st] 47 (0, 0)) := by
          rw [← hw5]
          have h1 := blk_set3 hxb 0 (.int .i64 pr)
          have h2 := blk_set3 h1 1 (.int .i64 pl)
          have h3 := blk_set3 h2 2 (.int .i64 st)
          exact h3
        have hx0 : w5.cell? ⟨bx, 0, none⟩ = some (.int .i64 pr) := cell_of_row _ _ 0 _ _ _ hxb5
        have hx1 : w5.cell? ⟨bx, 1, none⟩ = some (.int .i64 pl) := cell_of_row _ _ 1 _ _ _ hxb5
        have hx2 : w5.cell? ⟨bx, 2, none⟩ = some (.int .i64 st) := cell_of_row _ _ 2 _ _ _ hxb5
        have hdS : d ≠ bx := fun h => (hbxS d h).2 hTd0
        have hcd : w5.cell? ⟨d, 0, none⟩ = some (.slice (some ⟨db, 0, none⟩) M'.length dc) := f45.out hcd (fun h => hdS h)
        rw [hw5]
        clear hw5 hxb hxb5 hb4 f4' hxf hbxS hSb hTb hTd0 hdS hp0 hp1 hp2
        have hML : M'.length ≤ 512 := by omega
        have kO := fun (w : World) (h : CrewAt w S' c M') => crew_over h hML
        have kO2 := fun (w : World) (h : RefAt w T' d M') => rover_any h
        obtain ⟨ov, hov⟩ : ∃ ov, overF M' = ov := ⟨_, rfl⟩
        rw [hov] at kO kO2
        have KO := Lib.hid kO
        have KO2 := Lib.hid kO2
        clear kO kO2 hov
        go_wp2_with fail
        go_region_held3 (fun w' => w'.cell? ⟨bq, 1, none⟩ = some (.int .i64 j) ∧ w'.cell? ⟨bx, 0, none⟩ = some (.int .i64 pr) ∧ w'.cell? ⟨bx, 1, none⟩ = some (.int .i64 pl) ∧ w'.cell? ⟨bx, 2, none⟩ = some (.int .i64 st) ∧ w'.cell? ⟨d, 0, none⟩ = some (.slice (some ⟨db, 0, none⟩) M'.length dc))
          (first | go_keep | (go_split_ands; refine ⟨?_, ?_, ?_, ?_, ?_⟩ <;> exact Frm.out (by assumption) (by assumption) (fun h => h)))
          ((first
          | (go_at_call 20; refine (has_eq (T := T') ?_ j st true HST.out).mono ?_; exact (hb5.later (by repeat (first | exact Frm.refl _ _ | apply Frm.drewN | apply Frm.drew | apply Frm.alloc | (refine Frm.then ?_ (by assumption))))).rf; rintro e w5 ⟨rfl, f5⟩)
          | (go_at_call 11; refine (crew_len (S := S') (L := M') ?_).mono ?_; exact (hb5.later (by repeat (first | exact Frm.refl _ _ | apply Frm.drewN | apply Frm.drew | apply Frm.alloc | (refine Frm.then ?_ (by assumption))))).cr; rintro e w6 ⟨rfl, rfl⟩)
          | (go_at_call 21; refine (KO.out _ ?_).mono ?_; exact (hb5.later (by repeat (first | exact Frm.refl _ _ | apply Frm.drewN | apply Frm.drew | apply Frm.alloc | (refine Frm.then ?_ (by assumption))))).cr; rintro e w7 ⟨rfl, f7⟩)
          | (go_at_call 22; refine (KO2.out _ ?_).mono ?_; exact (hb5.later (by repeat (first | exact Frm.refl _ _ | apply Frm.drewN | apply Frm.drew | apply Frm.alloc | (refine Frm.then ?_ (by assumption))))).rf; rintro e w8 ⟨rfl, f8⟩)
          | (go_at_call 12; refine (crew_able (S := S') (L := M') ?_ hML).mono ?_; exact (hb5.later (by repeat (first | exact Frm.refl _ _ | apply Frm.drewN | apply Frm.drew | apply Frm.alloc | (refine Frm.then ?_ (by assumption))))).cr; rintro e w9 ⟨a1, cap1, n1, rfl, r1, f9⟩)
          | (go_at_call 24; refine (rable_any (S := T') (L := M') ?_ hML).mono ?_; exact (hb5.later (by repeat (first | exact Frm.refl _ _ | apply Frm.drewN | apply Frm.drew | apply Frm.alloc | (refine Frm.then ?_ (by assumption))))).rf; rintro e w10 ⟨a2, cap2, n2, rfl, r2, f10⟩)
          | (go_at_call 23; refine (ints_any _ _ _ _ _ _ (ableF M') (ableF M') _ ?_ ?_).mono ?_; exact r1.nil (by repeat (first | exact Frm.refl _ _ | apply Frm.drewN | apply Frm.drew | apply Frm.alloc | (refine Frm.then ?_ (by assumption)))); exact r2.nil (by repeat (first | exact Frm.refl _ _ | apply Frm.drewN | apply Frm.drew | apply Frm.alloc | (refine Frm.then ?_ (by assumption)))); rintro e w11 ⟨rfl, f11⟩)))
        go_wp2_with fail
        go_roundw
        case rel => exact ⟨k + 1, M', S', T', by omega, by go_num, f5'.then (by repeat (first | exact Frm.refl _ _ | apply Frm.drewN | apply Frm.drew | apply Frm.alloc | (refine Frm.then ?_ (by assumption)))), hb5.later (by repeat (first | exact Frm.refl _ _ | apply Frm.drewN | apply Frm.drew | apply Frm.alloc | (refine Frm.then ?_ (by assumption)))), by omega, hs'⟩
        case measure => simp [intOf]; omega
    · go_wp2_with fail
      refine (two_any wr).mono ?_
      rintro e w2 ⟨rfl, f2⟩
      go_wp2_with fail
      go_ret
      exact ⟨rfl, hfr.then f2⟩

theorem crewSteps_walk {v : Value} {L : List Step} {w : World} (hv : ArgSteps w v L) : Calls Try.prog 5 #[v] w (Yes w) := by
  obtain ⟨a, cap, rfl, hrd⟩ := hv
  have hm := hrd.2.1
  unfold maxLen at hm
  by_cases hl : 300 < L.length
  · exact crewSteps_out hl (by omega) w
  · exact crewSteps_in (by omega) hrd

end Go.Proofs.Ytlfboploganglaa
