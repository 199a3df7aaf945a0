/- Layer 9: what comes in; PipeNil, PipeReady. -/
import Derived.Test.YtlccpbdpfamekaaLaws9A
import Derived.Test.YtlccpbdpfamekaaOpen
namespace Go.Proofs.Ytlccpbdpfamekaa
set_option linter.unusedVariables false
set_option linter.unusedSimpArgs false
open Go.ChangeShapes Go.WideShapes Go.ChangeAt Go.RowKit

theorem opens_wtr : Opens 32 (fun _ (x : Wtr) c => c = x.cells) :=
  Opens.imp (opens_struct (fs := [_, _, _]) (sz := 3) Try.underlying32 (by kernel_rfl)
    (parts_cons (sz := 1) (m := 2) rfl (by kernel_rfl) (opens_int Try.underlying3) (by decide) (parts_cons (sz := 1) (m := 1) rfl (by kernel_rfl) (opens_int Try.underlying3) (by decide) (parts_one rfl (by kernel_rfl) (opens_int Try.underlying3)))))
    (fun x => ⟨x.1, x.2.1, x.2.2⟩) (fun w x cs ⟨c, d, h, h1, c', d', h', h2, h3⟩ => by rw [h, h', h1.1, h2.1, h3.1]; rfl)

theorem opens_step9 : Opens 34 (fun _ (x : Step9) c => c = x.cells) :=
  Opens.imp (opens_struct (fs := [_, _]) (sz := 4) Try.underlying34 (by kernel_rfl)
    (parts_cons (sz := 1) (m := 3) rfl (by kernel_rfl) (opens_int Try.underlying3) (by decide) (parts_one rfl (by kernel_rfl) opens_wtr)))
    (fun x => ⟨x.1, x.2⟩) (fun w x cs ⟨c, d, h, h1, h2⟩ => by rw [h, h1.1, h2]; rfl)

def ArgWtr (w : World) (v : Value) (x : Wtr) : Prop := v = x.agg

set_option maxRecDepth 100000 in
theorem open_pew_Waiter {r : Reach} {b0 : Nat} {H : Type} {enc : TypeId × Value → H} {w : World} {base : Nat} {sp : Nat → Bool} {held : Bool} {v : Value} {d : DataW H} {p : List MemPlace}
    (hv : Value.okWide Try.prog w r b0 32 v) (h : DataW.Trod enc Try.prog w base sp held 32 v d p) : ∃ x : Wtr, ArgWtr w v x := by
  obtain ⟨x, hx⟩ := open_arg opens_wtr h
  obtain ⟨cs, rfl, _⟩ := okWide_struct Try.underlying32 hv
  refine ⟨x, ?_⟩
  simp only [Value.cells] at hx
  unfold ArgWtr Wtr.agg
  congr 1
  exact Array.ext' hx

def ArgSteps9 (w : World) (v : Value) (L : List Step9) : Prop := ∃ a cap, v = .slice a L.length cap ∧ Rd w 4 a L.length (L.flatMap Step9.cells)

set_option maxRecDepth 100000 in
theorem open_sl_staithelaw09_Step {r : Reach} {b0 : Nat} {H : Type} {enc : TypeId × Value → H} {w : World} {base : Nat} {sp : Nat → Bool} {held : Bool} {v : Value} {d : DataW H} {p : List MemPlace}
    (hv : Value.okWide Try.prog w r b0 22 v) (h : DataW.Trod enc Try.prog w base sp held 22 v d p) : ∃ L : List Step9, ArgSteps9 w v L := by
  obtain ⟨L, hL⟩ := open_arg (opens_slice Try.underlying22 (sz := 4) (by kernel_rfl) (by decide) opens_step9) h
  obtain ⟨a, cap, h1, h2⟩ := rd_of_slice (f := Step9.cells) (fun _ => rfl) hL
  obtain ⟨a', n', c', rfl⟩ := okWide_slice Try.underlying22 hv
  simp only [Value.cells] at h1
  exact ⟨L, a, cap, List.head_eq_of_cons_eq h1, h2⟩

theorem step9_at {w : World} {a : Option Addr} {L : List Step9} (h : Rd w 4 a L.length (L.flatMap Step9.cells)) (k : Nat) (hk : k < L.length) : ∃ b off, a = some ⟨b, off, none⟩ ∧
    w.cell? ⟨b, off + k * 4, none⟩ = some (.int .i64 L[k].what) ∧ w.cell? ⟨b, off + k * 4 + 1, none⟩ = some (.int .i64 L[k].w.g) ∧ w.cell? ⟨b, off + k * 4 + 2, none⟩ = some (.int .i64 L[k].w.case_) ∧ w.cell? ⟨b, off + k * 4 + 3, none⟩ = some (.int .i64 L[k].w.value) := by
  obtain ⟨b, off, rfl, hc⟩ := h.2.2 (by omega)
  have key : ∀ j (hj : j < 4), ∀ u, (L[k].cells)[j]? = some u → w.cell? ⟨b, off + k * 4 + j, none⟩ = some u := fun j hj u hu => by
    rw [Nat.add_assoc]
    exact hc (k * 4 + j) u (by rw [flat_get Step9.cells 4 (fun _ => rfl) L k j hj hk]; exact hu)
  exact ⟨b, off, rfl, key 0 (by omega) _ rfl, key 1 (by omega) _ rfl, key 2 (by omega) _ rfl, key 3 (by omega) _ rfl⟩

section
variable {w : World} {F : List Piece} {g h n : Nat} {x : PipeM}

set_option maxRecDepth 100000 in
set_option maxHeartbeats 4000000 in
theorem pipeNil_walk (s : Bool) {v : Value} {m : Wtr} (hv : ArgWtr w v m) : Calls Try.prog 6 #[.bool s, v] w fun e w' => e = .returned (.bool true) ∧ Frm Nil w w' := by
  unfold ArgWtr at hv
  subst hv
  have K1 := fun (w : World) (F : List Piece) (H : SL w F) => sl_wait_nil s m H
  obtain ⟨mg, mc, mv⟩ := m
  unfold Wtr.agg at K1 ⊢
  dsimp only at K1 ⊢
  have key : ∃ r : Int, ∃ rb : Bool, (if mg < 0 ∨ mc < -1 then (1 : Int) else 0) = r ∧ (r == 0) = rb ∧ ((decide (0 ≤ mg) && decide (-1 ≤ mc)) = rb) := by
    refine ⟨_, _, rfl, rfl, ?_⟩
    by_cases h : mg < 0 ∨ mc < -1
    · rw [if_pos h]
      simp
      omega
    · rw [if_neg h]
      simp
      omega
  obtain ⟨r, rb, hr, hrb, hright⟩ := key
  rw [hr] at K1
  have HK1 := Lib.hid K1
  have HR := Lib.hid hright
  clear K1 hr hright
  have H := SL.start w
  have KN := pipe_send_nil mv
  have KR := pipe_recv_nil
  unfold gzero GotM.agg wzero at KN KR
  dsimp only at KN KR
  have HKN := Lib.hid KN
  have HKR := Lib.hid KR
  clear KN KR
  have hfd : ∀ w : World, (Instr.field 49 (.agg #[.bool false, .bool false, .bool false, .int .i64 0, .int .i64 0, .int .i64 0, .int .i64 0]) 0).run Try.prog w = .ok (.bool false) w := fun _ => by kernel_rfl
  obtain ⟨p1, hp1⟩ : ∃ p, decide (0 ≤ mg) = p := ⟨_, rfl⟩
  obtain ⟨p2, hp2⟩ : ∃ p, decide (-1 ≤ mc) = p := ⟨_, rfl⟩
  rw [hp1, hp2] at HR
  cases p1
  all_goals cases p2
  all_goals
    have hrb2 := HR.out
    simp only [Bool.and_true, Bool.and_false, Bool.true_and, Bool.false_and] at hrb2
    subst hrb2
    go_enter Try.func6, Try.ntmps6
    go_wp2_with fail
    have H1 := H.alloc (.cells #[.int .i64 mg, .int .i64 mc, .int .i64 mv] 32)
    obtain ⟨b, hb⟩ : ∃ b, w.heap.size = b := ⟨_, rfl⟩
    rw [hb] at H1
    simp only [hb]
    clear hb
    refine (HKN.out _).mono ?_
    rintro e w1 ⟨rfl, f1⟩
    have H2 := H1.later f1
    obtain ⟨b0, b1, b2, bf⟩ := pew_cells H2.at0
    have bl := lt_of_block H2.at0
    go_wp2_with fail
    have H3 := H2.alloc (.cells #[.bool false, .bool false, .bool false, .int .i64 0, .int .i64 0, .int .i64 0, .int .i64 0] 49)
    obtain ⟨gb, hgb⟩ : ∃ b, w1.heap.size = b := ⟨_, rfl⟩
    rw [hgb] at H3
    simp only [hgb]
    clear hgb
    refine (pipe_close_nil _).mono ?_
    rintro e w2 ⟨rfl, f2⟩
    have H4 := H3.later f2
    clear b0 b1 b2 bf bl
    obtain ⟨g0, g1, g2, g3, g4, g5, g6, gf⟩ := box7 H4.at0
    obtain ⟨b0, b1, b2, bf⟩ := pew_cells H4.at1
    have gl := lt_of_block H4.at0
    have bl := lt_of_block H4.at1
    go_wp2_with fail
    refine (pipe_counts_nil _).mono ?_
    rintro e w3 ⟨rfl, rfl⟩
    go_wp2_with fail
    refine (pipe_ready_nil s _).mono ?_
    rintro e w4 ⟨rfl, f4⟩
    have H5 := H4.later f4
    clear g0 g1 g2 g3 g4 g5 g6 gf b0 b1 b2 bf gl bl
    obtain ⟨g0, g1, g2, g3, g4, g5, g6, gf⟩ := box7 H5.at0
    have gl := lt_of_block H5.at0
    go_wp2_with fail
    refine (HKR.out _).mono ?_
    rintro e w5 ⟨rfl, f5⟩
    have H6 := H5.later f5
    obtain ⟨b0, b1, b2, bf⟩ := pew_cells H6.at1
    have bl := lt_of_block H6.at1
    go_wp2_with fail
    refine (HK1.out _ _ H6).mono ?_
    rintro e w6 ⟨rfl, H7⟩
    clear b0 b1 b2 bf bl
    obtain ⟨b0, b1, b2, bf⟩ := pew_cells H7.at1
    have bl := lt_of_block H7.at1
    go_wp2_with fail
    refine (pipe_drop_nil _ _).mono ?_
    rintro e w7 ⟨rfl, f7⟩
    have H8 := H7.later f7
    go_wp2_with fail
    refine (pipe_len_nil _).mono ?_
    rintro e w8 ⟨rfl, rfl⟩
    go_wp2_with fail
    refine (pipe_cap_nil _).mono ?_
    rintro e w9 ⟨rfl, rfl⟩
    go_wp2_with fail
    refine (pipe_closed_nil _).mono ?_
    rintro e w10 ⟨rfl, f10⟩
    have H9 := H8.later f10
    go_wp2_with fail
    refine (pipe_waiting_nil s _).mono ?_
    rintro e w11 ⟨rfl, rfl⟩
    go_wp2_with fail
    refine (l_hands H9).mono ?_
    rintro e w12 ⟨rfl, H10⟩
    go_wp2_with fail
    go_ret
    exact ⟨rfl, SL.old H10.tl.tl⟩
end

end Go.Proofs.Ytlccpbdpfamekaa
