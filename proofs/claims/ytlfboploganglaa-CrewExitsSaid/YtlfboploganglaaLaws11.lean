/- The statements of layer 11 on any steps: their walks. -/
import Derived.Test.YtlfboploganglaaCrewTwo
import Derived.Test.YtlfboploganglaaOpen
import Derived.Test.YtlfboploganglaaPlain
namespace Go.Proofs.Ytlfboploganglaa
set_option linter.unusedVariables false
set_option linter.unusedSimpArgs false
open Go.ChangeShapes Go.WideShapes Go.ChangeAt Go.RowKit

/-! ## CrewNil -/
set_option maxHeartbeats 400000 in
theorem turn_nil (g fr to by_ : Int) (w : World) : Calls Try.prog 26 #[.pointer none, .int .i64 g, .int .i64 fr, .int .i64 to, .int .i64 by_] w fun e w' => e = .returned (.int .i64 6) ∧ w = w' := turn_none (crew_of_nil g w) fr to by_

set_option maxHeartbeats 400000 in
theorem go_nil (g : Int) (w : World) : Calls Try.prog 13 #[.pointer none, .int .i64 g] w fun e w' => e = .returned (.int .i64 6) ∧ w = w' := by
  go_enter Try.func13, Try.ntmps13
  go_wp2_with (go_at_call 26; refine (turn_nil g 0 0 1 _).mono ?_; rintro e w' ⟨rfl, rfl⟩)
  go_ret
  exact ⟨rfl, rfl⟩

set_option maxHeartbeats 400000 in
theorem park_nil (g : Int) (w : World) : Calls Try.prog 14 #[.pointer none, .int .i64 g] w fun e w' => e = .returned (.int .i64 6) ∧ w = w' := by
  go_enter Try.func14, Try.ntmps14
  go_wp2_with (go_at_call 26; refine (turn_nil g 0 1 0 _).mono ?_; rintro e w' ⟨rfl, rfl⟩)
  go_ret
  exact ⟨rfl, rfl⟩

set_option maxHeartbeats 400000 in
theorem wake_nil (g : Int) (w : World) : Calls Try.prog 15 #[.pointer none, .int .i64 g] w fun e w' => e = .returned (.int .i64 6) ∧ w = w' := by
  go_enter Try.func15, Try.ntmps15
  go_wp2_with (go_at_call 26; refine (turn_nil g 1 0 1 _).mono ?_; rintro e w' ⟨rfl, rfl⟩)
  go_ret
  exact ⟨rfl, rfl⟩

set_option maxHeartbeats 400000 in
theorem exit_nil (g : Int) (w : World) : Calls Try.prog 16 #[.pointer none, .int .i64 g] w fun e w' => e = .returned (.int .i64 6) ∧ w = w' := by
  go_enter Try.func16, Try.ntmps16
  go_wp2_with (go_at_call 26; refine (turn_nil g 0 2 0 _).mono ?_; rintro e w' ⟨rfl, rfl⟩)
  go_ret
  exact ⟨rfl, rfl⟩

set_option maxHeartbeats 400000 in
theorem crewNil_walk (g : Int) (_ : (Lit.int .i64 g).wf = true) (w : World) : Calls Try.prog 7 #[.int .i64 g] w (Yes w) := by
  by_cases h : 0 ≤ g
  all_goals
    go_enter Try.func7, Try.ntmps7
    go_wp2_with fail
    first
      | (refine (crew_spawn_nil g h w).mono ?_; rintro e w1 ⟨rfl, rfl⟩)
      | (refine (crew_spawn_arg none g (by omega) w).mono ?_; rintro e w1 ⟨rfl, rfl⟩)
    go_wp2_with fail
    refine (state_none (crew_of_nil g w)).mono ?_
    rintro e w1 ⟨rfl, rfl⟩
    go_wp2_with fail
    refine (at_none (crew_of_nil g w)).mono ?_
    rintro e w1 ⟨rfl, rfl⟩
    go_wp2_with fail
    refine (go_nil g w).mono ?_
    rintro e w1 ⟨rfl, rfl⟩
    go_wp2_with fail
    refine (park_nil g w).mono ?_
    rintro e w1 ⟨rfl, rfl⟩
    go_wp2_with fail
    refine (wake_nil g w).mono ?_
    rintro e w1 ⟨rfl, rfl⟩
    go_wp2_with fail
    refine (exit_nil g w).mono ?_
    rintro e w1 ⟨rfl, rfl⟩
    go_wp2_with fail
    refine (crew_able_nil w).mono ?_
    rintro e w1 ⟨rfl, rfl⟩
    go_wp2_with fail
    refine (crew_len_nil w).mono ?_
    rintro e w1 ⟨rfl, rfl⟩
    go_wp2_with fail
    refine (crew_over_nil w).mono ?_
    rintro e w1 ⟨rfl, rfl⟩
    go_wp2_with fail
    refine (two_any w).mono ?_
    rintro e w1 ⟨rfl, f1⟩
    go_wp2_with fail
    go_ret
    exact ⟨ret_bool (by first | (simp; omega) | simp), f1⟩

/-! ## steps -/
structure Step where
  what : Int
  g : Int

def Step.cells (s : Step) : List Value := [.int .i64 s.what, .int .i64 s.g]

theorem opens_step : Opens 34 (fun _ (x : Step) c => c = x.cells) :=
  Opens.imp (opens_struct (fs := [_, _]) (sz := 2) Try.underlying34 (by kernel_rfl)
    (parts_cons (sz := 1) (m := 1) rfl (by kernel_rfl) (opens_int Try.underlying3) (by decide) (parts_one rfl (by kernel_rfl) (opens_int Try.underlying3))))
    (fun x => ⟨x.1, x.2⟩) (fun w x cs ⟨c, d, h, h1, h2⟩ => by rw [h, h1.1, h2.1]; rfl)

def ArgSteps (w : World) (v : Value) (L : List Step) : Prop := ∃ a cap, v = .slice a L.length cap ∧ Rd w 2 a L.length (L.flatMap Step.cells)

theorem open_sl_staithelaw11_Step {r : Reach} {b0 : Nat} {H : Type} {enc : TypeId × Value → H} {w : World} {base : Nat} {sp : Nat → Bool} {held : Bool} {v : Value} {d : DataW H} {p : List MemPlace}
    (hv : Value.okWide Try.prog w r b0 32 v) (h : DataW.Trod enc Try.prog w base sp held 32 v d p) : ∃ L : List Step, ArgSteps w v L := by
  obtain ⟨L, hL⟩ := open_arg (opens_slice Try.underlying32 (sz := 2) (by kernel_rfl) (by decide) opens_step) h
  obtain ⟨a, cap, h1, h2⟩ := rd_of_slice (f := Step.cells) (fun _ => rfl) hL
  obtain ⟨a', n', c', rfl⟩ := okWide_slice Try.underlying32 hv
  simp only [Value.cells] at h1
  exact ⟨L, a, cap, List.head_eq_of_cons_eq h1, h2⟩

/-- The cells of a step that is read. -/
theorem step_at {w : World} {a : Option Addr} {L : List Step} (h : Rd w 2 a L.length (L.flatMap Step.cells)) (hn : 0 < L.length) : ∃ b off, a = some ⟨b, off, none⟩ ∧ b < w.heap.size ∧
    ∀ i (hi : i < L.length), w.cell? ⟨b, off + i * 2, none⟩ = some (.int .i64 L[i].what) ∧ w.cell? ⟨b, off + i * 2 + 1, none⟩ = some (.int .i64 L[i].g) := by
  obtain ⟨b, off, ha, hc⟩ := h.2.2 hn
  have key : ∀ i (hi : i < L.length) j (hj : j < 2), ∀ u, (L[i].cells)[j]? = some u → w.cell? ⟨b, off + i * 2 + j, none⟩ = some u := fun i hi j hj u hu => by
    rw [Nat.add_assoc]
    exact hc (i * 2 + j) u (by rw [flat_get Step.cells 2 (fun _ => rfl) L i j hj hi]; exact hu)
  exact ⟨b, off, ha, World.block_lt_of_cell? w _ (key 0 hn 0 (by omega) _ rfl), fun i hi => ⟨key i hi 0 (by omega) _ rfl, key i hi 1 (by omega) _ rfl⟩⟩

end Go.Proofs.Ytlfboploganglaa
