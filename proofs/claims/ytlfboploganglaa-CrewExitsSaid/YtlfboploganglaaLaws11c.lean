/- CrewSteps and CrewExits: a crew and the reference do each step alike. -/
import Derived.Test.YtlfboploganglaaRef11
import Derived.Deep.RegionWith
namespace Go.Proofs.Ytlfboploganglaa
set_option linter.unusedVariables false
set_option linter.unusedSimpArgs false
open Go.RowKit

/-- Two things apart: the crew c in S, the reference d in T, both of the same goroutines M. -/
structure Both (B : Nat) (w : World) (S T : Nat → Prop) (c d : Nat) (M : List One) : Prop where
  cr : CrewAt w S c M
  rf : RefAt w T d M
  zs : Zone B w S
  zt : Zone B w T
  ap : ∀ k, S k → ¬ T k

theorem Both.later {B : Nat} {w w' : World} {S T : Nat → Prop} {c d : Nat} {M : List One} (h : Both B w S T c d M) (f : Frm Nil w w') : Both B w' S T c d M :=
  ⟨h.cr.bound.move' f, h.rf.bound.move' f, h.zs.later f, h.zt.later f, h.ap⟩

/-- Behind a method of the crew, and then the one of the reference. -/
theorem Both.two {B : Nat} {w w1 w2 w3 : World} {S T : Nat → Prop} {c d : Nat} {M M' : List One} (h : Both B w S T c d M) (hB : B ≤ w.heap.size)
    (h1 : CrewAt w1 (New S w w1) c M') (f1 : Frm S w w1) (f2 : Frm Nil w1 w2) (h3 : RefAt w3 (New T w2 w3) d M') (f3 : Frm T w2 w3) :
    Both B w3 (New S w w1) (New T w2 w3) c d M' := by
  have z1 := h.zs.step f1 hB
  have z2 : Zone B w2 (New S w w1) := z1.later f2
  have hap : ∀ k, New S w w1 k → ¬ T k := fun k hk ht => hk.elim (fun hs => h.ap k hs ht) (fun g => by have := h.zt.hi k ht; omega)
  refine ⟨(h1.bound.move' f2).bound.move (fun k hk => f3.block k hk.2 (hap k hk.1)) |>.mono (fun k hk => hk.1), h3, z2.later f3, ((h.zt.later f1).later f2).step f3 (Nat.le_trans hB (Nat.le_trans f1.size f2.size)), fun k hk ht => ht.elim (hap k hk) (fun g => by have := z2.hi k hk; omega)⟩

theorem Both.ref_at {B : Nat} {w w1 w2 : World} {S T : Nat → Prop} {c d : Nat} {M : List One} (h : Both B w S T c d M) (f1 : Frm S w w1) (f2 : Frm Nil w1 w2) : RefAt w2 T d M :=
  ((h.rf.bound.move (fun k hk => f1.block k hk.2 (fun hs => h.ap k hs hk.1))).mono (fun k hk => ⟨hk.1, Nat.lt_of_lt_of_le hk.2 f1.size⟩)).move' f2

def DoesPost (B : Nat) (w : World) (S T : Nat → Prop) (c d : Nat) (M' : List One) : Ending → World → Prop := fun e w' =>
  e = .returned (.bool true) ∧ ∃ S' T', Both B w' S' T' c d M' ∧ Frm (fun k => S k ∨ T k) w w'

section
variable {B : Nat} {w : World} {S T : Nat → Prop} {c d : Nat} {M : List One}

theorem Both.done {w1 w2 w3 w4 : World} {M' : List One} (h : Both B w S T c d M) (hB : B ≤ w.heap.size)
    (h1 : CrewAt w1 (New S w w1) c M') (f1 : Frm S w w1) (f2 : Frm Nil w1 w2) (h3 : RefAt w3 (New T w2 w3) d M') (f3 : Frm T w2 w3) (f4 : Frm Nil w3 w4) {w0 : World} (f0 : Frm Nil w0 w) :
    ∃ S' T', Both B w4 S' T' c d M' ∧ Frm (fun k => S k ∨ T k) w0 w4 :=
  ⟨_, _, (h.two hB h1 f1 f2 h3 f3).later f4, (((f0.nil.trans f1 (fun _ _ hk => .inl hk)).then f2).trans f3 (fun _ _ hk => .inr hk)).then f4⟩

set_option maxRecDepth 100000 in
set_option maxHeartbeats 400000 in
theorem does_spawn (h : Both B w S T c d M) (hB : B ≤ w.heap.size) (hL : M.length ≤ 512) (what g : Int) (hw : what = 0 ∨ what = 1) :
    Calls Try.prog 18 #[.pointer (some ⟨c, 0, none⟩), .pointer (some ⟨d, 0, none⟩), .agg #[.int .i64 what, .int .i64 g]] w (DoesPost B w S T c d (spawnF M g).2) := by
  obtain ⟨a, ha⟩ : ∃ a, (spawnF M g).1.1 = a := ⟨_, rfl⟩
  obtain ⟨r, hr⟩ : ∃ r, (spawnF M g).1.2 = r := ⟨_, rfl⟩
  obtain ⟨M', hM⟩ : ∃ M', (spawnF M g).2 = M' := ⟨_, rfl⟩
  have k1 := fun (w : World) S (h : CrewAt w S c M) => crew_spawn h hL g
  have k2 := fun (w : World) T (h : RefAt w T d M) => rspawn_any h hL g
  rw [ha, hr, hM] at k1 k2
  rw [hM]
  have K1 := Lib.hid k1
  have K2 := Lib.hid k2
  clear k1 k2 ha hr hM
  rcases hw with rfl | rfl
  all_goals
    go_enter Try.func18, Try.ntmps18
    go_wp2_with fail
    refine (K1.out _ _ ((h.later ((Frm.refl _ _).alloc _)).cr)).mono ?_
    rintro e w1 ⟨rfl, h1, f1⟩
    have hbx : w1.cell? ⟨w.heap.size, 1, none⟩ = some (.int .i64 g) := f1.out (cell_new_row 1) (fun hk => Nat.lt_irrefl _ (h.zs.hi _ hk))
    go_wp2_with fail
    refine (K2.out _ _ ((h.later ((Frm.refl _ _).alloc _)).ref_at f1 (Frm.refl _ _))).mono ?_
    rintro e w3 ⟨rfl, h3, f3⟩
    go_wp2_with fail
    go_ret
    exact ⟨rfl, (h.later ((Frm.refl _ _).alloc _)).done (Nat.le_trans hB (by simp)) h1 f1 (Frm.refl _ _) h3 f3 (Frm.refl _ _) ((Frm.refl _ _).alloc _)⟩

set_option maxRecDepth 100000 in
set_option maxHeartbeats 400000 in
theorem does_go (h : Both B w S T c d M) (hB : B ≤ w.heap.size) (hM0 : Small M 100000000) (g : Int) :
    Calls Try.prog 18 #[.pointer (some ⟨c, 0, none⟩), .pointer (some ⟨d, 0, none⟩), .agg #[.int .i64 2, .int .i64 g]] w (DoesPost B w S T c d (turnF M g 0 0 1).2) := by
  obtain ⟨r, hr⟩ : ∃ r, (turnF M g 0 0 1).1 = r := ⟨_, rfl⟩
  obtain ⟨M', hM⟩ : ∃ M', (turnF M g 0 0 1).2 = M' := ⟨_, rfl⟩
  have k1 := fun (w : World) S (h : CrewAt w S c M) => crew_go h hM0 g
  have k2 := fun (w : World) T (h : RefAt w T d M) => rturn_any h hM0 g 0 0 (by omega)
  rw [show byOf 0 0 = 1 from rfl] at k2
  rw [hr, hM] at k1 k2
  rw [hM]
  have K1 := Lib.hid k1
  have K2 := Lib.hid k2
  clear k1 k2 hr hM
  go_enter Try.func18, Try.ntmps18
  go_wp2_with fail
  go_region_with (first
    | (go_at_call 13; refine (K1.out _ S ?_).mono ?_; exact (h.later (by repeat (first | exact Frm.refl _ _ | apply Frm.drewN | apply Frm.drew | apply Frm.alloc))).cr; rintro e w1 ⟨rfl, h1, f1⟩; have hbx : w1.cell? ⟨w.heap.size, 1, none⟩ = some (.int .i64 g) := f1.out (cell_new_row (w := w) 1) (fun hk => Nat.lt_irrefl _ (h.zs.hi _ hk)))
    | (go_at_call 29; refine (K2.out _ T ?_).mono ?_; exact (h.later (by repeat (first | exact Frm.refl _ _ | apply Frm.drewN | apply Frm.drew | apply Frm.alloc))).ref_at f1 (Frm.refl _ _); rintro e w3 ⟨rfl, h3, f3⟩))
  all_goals
    go_wp2_with fail
    go_ret
    exact ⟨ret_bool (by simp), (h.later (by repeat (first | exact Frm.refl _ _ | apply Frm.drewN | apply Frm.drew | apply Frm.alloc))).done (Nat.le_trans hB (by simp)) h1 f1 (Frm.refl _ _) h3 f3 (Frm.refl _ _) (by repeat (first | exact Frm.refl _ _ | apply Frm.drewN | apply Frm.drew | apply Frm.alloc))⟩

set_option maxRecDepth 100000 in
set_option maxHeartbeats 400000 in
theorem does_park (h : Both B w S T c d M) (hB : B ≤ w.heap.size) (hM0 : Small M 100000000) (g : Int) :
    Calls Try.prog 18 #[.pointer (some ⟨c, 0, none⟩), .pointer (some ⟨d, 0, none⟩), .agg #[.int .i64 3, .int .i64 g]] w (DoesPost B w S T c d (turnF M g 0 1 0).2) := by
  obtain ⟨r, hr⟩ : ∃ r, (turnF M g 0 1 0).1 = r := ⟨_, rfl⟩
  obtain ⟨M', hM⟩ : ∃ M', (turnF M g 0 1 0).2 = M' := ⟨_, rfl⟩
  have k1 := fun (w : World) S (h : CrewAt w S c M) => crew_park h hM0 g
  have k2 := fun (w : World) T (h : RefAt w T d M) => rturn_any h hM0 g 0 1 (by omega)
  rw [show byOf 0 1 = 0 from rfl] at k2
  rw [hr, hM] at k1 k2
  rw [hM]
  have K1 := Lib.hid k1
  have K2 := Lib.hid k2
  clear k1 k2 hr hM
  go_enter Try.func18, Try.ntmps18
  go_wp2_with fail
  go_region_with (first
    | (go_at_call 14; refine (K1.out _ S ?_).mono ?_; exact (h.later (by repeat (first | exact Frm.refl _ _ | apply Frm.drewN | apply Frm.drew | apply Frm.alloc))).cr; rintro e w1 ⟨rfl, h1, f1⟩; have hbx : w1.cell? ⟨w.heap.size, 1, none⟩ = some (.int .i64 g) := f1.out (cell_new_row (w := w) 1) (fun hk => Nat.lt_irrefl _ (h.zs.hi _ hk)))
    | (go_at_call 29; refine (K2.out _ T ?_).mono ?_; exact (h.later (by repeat (first | exact Frm.refl _ _ | apply Frm.drewN | apply Frm.drew | apply Frm.alloc))).ref_at f1 (Frm.refl _ _); rintro e w3 ⟨rfl, h3, f3⟩))
  all_goals
    go_wp2_with fail
    go_ret
    exact ⟨ret_bool (by simp), (h.later (by repeat (first | exact Frm.refl _ _ | apply Frm.drewN | apply Frm.drew | apply Frm.alloc))).done (Nat.le_trans hB (by simp)) h1 f1 (Frm.refl _ _) h3 f3 (Frm.refl _ _) (by repeat (first | exact Frm.refl _ _ | apply Frm.drewN | apply Frm.drew | apply Frm.alloc))⟩

set_option maxRecDepth 100000 in
set_option maxHeartbeats 400000 in
theorem does_wake (h : Both B w S T c d M) (hB : B ≤ w.heap.size) (hM0 : Small M 100000000) (g : Int) :
    Calls Try.prog 18 #[.pointer (some ⟨c, 0, none⟩), .pointer (some ⟨d, 0, none⟩), .agg #[.int .i64 4, .int .i64 g]] w (DoesPost B w S T c d (turnF M g 1 0 1).2) := by
  obtain ⟨r, hr⟩ : ∃ r, (turnF M g 1 0 1).1 = r := ⟨_, rfl⟩
  obtain ⟨M', hM⟩ : ∃ M', (turnF M g 1 0 1).2 = M' := ⟨_, rfl⟩
  have k1 := fun (w : World) S (h : CrewAt w S c M) => crew_wake h hM0 g
  have k2 := fun (w : World) T (h : RefAt w T d M) => rturn_any h hM0 g 1 0 (by omega)
  rw [show byOf 1 0 = 1 from rfl] at k2
  rw [hr, hM] at k1 k2
  rw [hM]
  have K1 := Lib.hid k1
  have K2 := Lib.hid k2
  clear k1 k2 hr hM
  go_enter Try.func18, Try.ntmps18
  go_wp2_with fail
  go_region_with (first
    | (go_at_call 15; refine (K1.out _ S ?_).mono ?_; exact (h.later (by repeat (first | exact Frm.refl _ _ | apply Frm.drewN | apply Frm.drew | apply Frm.alloc))).cr; rintro e w1 ⟨rfl, h1, f1⟩; have hbx : w1.cell? ⟨w.heap.size, 1, none⟩ = some (.int .i64 g) := f1.out (cell_new_row (w := w) 1) (fun hk => Nat.lt_irrefl _ (h.zs.hi _ hk)))
    | (go_at_call 29; refine (K2.out _ T ?_).mono ?_; exact (h.later (by repeat (first | exact Frm.refl _ _ | apply Frm.drewN | apply Frm.drew | apply Frm.alloc))).ref_at f1 (Frm.refl _ _); rintro e w3 ⟨rfl, h3, f3⟩))
  all_goals
    go_wp2_with fail
    go_ret
    exact ⟨ret_bool (by simp), (h.later (by repeat (first | exact Frm.refl _ _ | apply Frm.drewN | apply Frm.drew | apply Frm.alloc))).done (Nat.le_trans hB (by simp)) h1 f1 (Frm.refl _ _) h3 f3 (Frm.refl _ _) (by repeat (first | exact Frm.refl _ _ | apply Frm.drewN | apply Frm.drew | apply Frm.alloc))⟩

set_option maxRecDepth 100000 in
set_option maxHeartbeats 400000 in
theorem does_exit (h : Both B w S T c d M) (hB : B ≤ w.heap.size) (hM0 : Small M 100000000) (g : Int) :
    Calls Try.prog 18 #[.pointer (some ⟨c, 0, none⟩), .pointer (some ⟨d, 0, none⟩), .agg #[.int .i64 5, .int .i64 g]] w (DoesPost B w S T c d (turnF M g 0 2 0).2) := by
  obtain ⟨r, hr⟩ : ∃ r, (turnF M g 0 2 0).1 = r := ⟨_, rfl⟩
  obtain ⟨M', hM⟩ : ∃ M', (turnF M g 0 2 0).2 = M' := ⟨_, rfl⟩
  have k1 := fun (w : World) S (h : CrewAt w S c M) => crew_exit h hM0 g
  have k2 := fun (w : World) T (h : RefAt w T d M) => rturn_any h hM0 g 0 2 (by omega)
  rw [show byOf 0 2 = 0 from rfl] at k2
  rw [hr, hM] at k1 k2
  rw [hM]
  have K1 := Lib.hid k1
  have K2 := Lib.hid k2
  clear k1 k2 hr hM
  go_enter Try.func18, Try.ntmps18
  go_wp2_with fail
  go_region_with (first
    | (go_at_call 16; refine (K1.out _ S ?_).mono ?_; exact (h.later (by repeat (first | exact Frm.refl _ _ | apply Frm.drewN | apply Frm.drew | apply Frm.alloc))).cr; rintro e w1 ⟨rfl, h1, f1⟩; have hbx : w1.cell? ⟨w.heap.size, 1, none⟩ = some (.int .i64 g) := f1.out (cell_new_row (w := w) 1) (fun hk => Nat.lt_irrefl _ (h.zs.hi _ hk)))
    | (go_at_call 29; refine (K2.out _ T ?_).mono ?_; exact (h.later (by repeat (first | exact Frm.refl _ _ | apply Frm.drewN | apply Frm.drew | apply Frm.alloc))).ref_at f1 (Frm.refl _ _); rintro e w3 ⟨rfl, h3, f3⟩))
  all_goals
    go_wp2_with fail
    go_ret
    exact ⟨ret_bool (by simp), (h.later (by repeat (first | exact Frm.refl _ _ | apply Frm.drewN | apply Frm.drew | apply Frm.alloc))).done (Nat.le_trans hB (by simp)) h1 f1 (Frm.refl _ _) h3 f3 (Frm.refl _ _) (by repeat (first | exact Frm.refl _ _ | apply Frm.drewN | apply Frm.drew | apply Frm.alloc))⟩

set_option maxRecDepth 100000 in
set_option maxHeartbeats 400000 in
theorem does_look (p q : Option Addr) (what g : Int) (h0 : what ≠ 0) (h1 : what ≠ 1) (h2 : what ≠ 2) (h3 : what ≠ 3) (h4 : what ≠ 4) (h5 : what ≠ 5) (w : World) :
    Calls Try.prog 18 #[.pointer p, .pointer q, .agg #[.int .i64 what, .int .i64 g]] w (Yes w) := by
  have b0 : (what == 0) = false := by simpa using h0
  have b1 : (what == 1) = false := by simpa using h1
  have b2 : (what == 2) = false := by simpa using h2
  have b3 : (what == 3) = false := by simpa using h3
  have b4 : (what == 4) = false := by simpa using h4
  have b5 : (what == 5) = false := by simpa using h5
  clear h0 h1 h2 h3 h4 h5
  go_enter Try.func18, Try.ntmps18
  go_wp2_with fail
  go_ret
  exact ⟨rfl, (Frm.refl _ _).alloc _⟩

/-- A step is done alike by both. -/
theorem does_any (h : Both B w S T c d M) (hB : B ≤ w.heap.size) (hL : M.length ≤ 512) (hM0 : Small M 100000000) (s : Step) :
    Calls Try.prog 18 #[.pointer (some ⟨c, 0, none⟩), .pointer (some ⟨d, 0, none⟩), .agg #[.int .i64 s.what, .int .i64 s.g]] w (DoesPost B w S T c d (stepF M s).2) := by
  obtain ⟨what, g⟩ := s
  dsimp only
  unfold stepF
  dsimp only
  by_cases h01 : what = 0 ∨ what = 1
  · rw [if_pos h01]
    exact does_spawn h hB hL what g h01
  · rw [if_neg h01]
    by_cases h2 : what = 2
    · subst h2
      exact does_go h hB hM0 g
    · rw [if_neg h2]
      by_cases h3 : what = 3
      · subst h3
        exact does_park h hB hM0 g
      · rw [if_neg h3]
        by_cases h4 : what = 4
        · subst h4
          exact does_wake h hB hM0 g
        · rw [if_neg h4]
          by_cases h5 : what = 5
          · subst h5
            exact does_exit h hB hM0 g
          · rw [if_neg h5]
            refine (does_look _ _ what g (fun h => h01 (.inl h)) (fun h => h01 (.inr h)) h2 h3 h4 h5 w).mono ?_
            rintro e w' ⟨rfl, hf⟩
            exact ⟨rfl, S, T, h.later hf, hf.nil⟩
end

end Go.Proofs.Ytlfboploganglaa
