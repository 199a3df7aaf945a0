/- Layer 10: what the laws are given; large. -/
import Derived.Test.YtlccpbdpfamekaaForkK
import Derived.Test.YtlccpbdpfamekaaOpen
namespace Go.Proofs.Ytlccpbdpfamekaa
set_option linter.unusedVariables false
set_option linter.unusedSimpArgs false
open Go.ChangeShapes Go.WideShapes Go.ChangeAt Go.RowKit

/-- An act, as it stands in a slice. -/
structure ActR where
  a : ActM
  la : Option Addr
  lc : Nat

def ActR.cells (x : ActR) : List Value := [.int .i64 x.a.what, .int .i64 x.a.g, .bool x.a.c.send, .int .i64 x.a.c.chan, .int .i64 x.a.c.value, .slice x.la x.a.l.length x.lc]

def kCase : Kx CaseM := fun _ c cs => cs = c.cells

theorem opens_case : Opens 67 kCase :=
  (opens_struct (fs := [_, _, _]) (sz := 3) Try.underlying67 (by kernel_rfl)
    (parts_cons (sz := 1) (m := 2) rfl (by kernel_rfl) (opens_bool Try.underlying4) (by decide)
      (parts_cons (sz := 1) (m := 1) rfl (by kernel_rfl) (opens_int Try.underlying3) (by decide)
        (parts_one (sz := 1) rfl (by kernel_rfl) (opens_int Try.underlying3))))).imp (fun v => ⟨v.1, v.2.1, v.2.2⟩) (fun w v cs h => by
      obtain ⟨c, d, rfl, rfl, c', d', rfl, ⟨rfl, _⟩, ⟨rfl, _⟩⟩ := h
      rfl)

def kCases : Kx (List CaseM × Option Addr × Nat) := fun w v cs => cs = [.slice v.2.1 v.1.length v.2.2] ∧ Rd w 3 v.2.1 v.1.length (v.1.flatMap CaseM.cells)

theorem opens_cases : Opens 68 kCases := by
  refine ⟨?_⟩
  intro H enc w base sp held fuel cs x h
  obtain ⟨L, hL⟩ := (opens_slice (sz := 3) (K := kCase) Try.underlying68 (by kernel_rfl) (by decide) opens_case).out h
  obtain ⟨a, cap, rfl, hr⟩ := rd_of_slice (f := CaseM.cells) (fun _ => rfl) hL
  exact ⟨(L, a, cap), rfl, hr⟩

def kAct : Kx ActR := fun w x cs => cs = x.cells ∧ Rd w 3 x.la x.a.l.length (x.a.l.flatMap CaseM.cells)

theorem opens_act : Opens 70 kAct :=
  (opens_struct (fs := [_, _, _, _]) (sz := 6) Try.underlying70 (by kernel_rfl)
    (parts_cons (sz := 1) (m := 5) rfl (by kernel_rfl) (opens_int Try.underlying3) (by decide)
      (parts_cons (sz := 1) (m := 4) rfl (by kernel_rfl) (opens_int Try.underlying3) (by decide)
        (parts_cons (sz := 3) (m := 1) rfl (by kernel_rfl) opens_case (by decide)
          (parts_one (sz := 1) rfl (by kernel_rfl) opens_cases))))).imp (fun v => ⟨⟨v.1, v.2.1, v.2.2.1, v.2.2.2.1⟩, v.2.2.2.2.1, v.2.2.2.2.2⟩) (fun w v cs h => by
      obtain ⟨c, d, rfl, ⟨rfl, _⟩, c', d', rfl, ⟨rfl, _⟩, c'', d'', rfl, rfl, ⟨rfl, hr⟩⟩ := h
      exact ⟨rfl, hr⟩)

/-- A list of acts, as it comes in. -/
def ArgActs (w : World) (v : Value) (L : List ActR) : Prop := ∃ a cap, v = .slice a L.length cap ∧ Rd w 6 a L.length (L.flatMap ActR.cells) ∧ ∀ x ∈ L, Rd w 3 x.la x.a.l.length (x.a.l.flatMap CaseM.cells)

set_option maxRecDepth 100000 in
theorem open_sl_staithelaw10_Act {r : Reach} {b0 : Nat} {H : Type} {enc : TypeId × Value → H} {w : World} {base : Nat} {sp : Nat → Bool} {held : Bool} {v : Value} {d : DataW H} {p : List MemPlace}
    (hv : Value.okWide Try.prog w r b0 59 v) (h : DataW.Trod enc Try.prog w base sp held 59 v d p) : ∃ L : List ActR, ArgActs w v L := by
  obtain ⟨L, hL⟩ := open_arg (opens_slice (sz := 6) (K := kAct) Try.underlying59 (by kernel_rfl) (by decide) opens_act) h
  have hin : ∀ x ∈ L, Rd w 3 x.la x.a.l.length (x.a.l.flatMap CaseM.cells) := by
    obtain ⟨a, cap, _, _, h2⟩ := hL
    intro x hx
    obtain ⟨i, hi, rfl⟩ := List.getElem_of_mem hx
    obtain ⟨b, off, _, h3⟩ := h2 (by omega)
    obtain ⟨c, _, h4, _⟩ := h3 i hi
    exact h4.2
  obtain ⟨a, cap, hc, hr⟩ := rd_of_slice (f := ActR.cells) (fun _ => rfl) (hL.imp (fun x c h => h.1))
  refine ⟨L, a, cap, ?_, hr, hin⟩
  obtain ⟨a', n', c', rfl⟩ := okWide_slice Try.underlying59 hv
  simp only [Value.cells] at hc
  exact List.head_eq_of_cons_eq hc

/-- Numbers, as they come in. -/
def ArgInts (w : World) (v : Value) (zs : List Int) : Prop := ∃ a cap, v = .slice a zs.length cap ∧ Rd w 1 a zs.length (ints zs)

set_option maxRecDepth 100000 in
theorem open_sl_int {r : Reach} {b0 : Nat} {H : Type} {enc : TypeId × Value → H} {w : World} {base : Nat} {sp : Nat → Bool} {held : Bool} {v : Value} {d : DataW H} {p : List MemPlace}
    (hv : Value.okWide Try.prog w r b0 42 v) (h : DataW.Trod enc Try.prog w base sp held 42 v d p) : ∃ zs : List Int, ArgInts w v zs := by
  obtain ⟨L, hL⟩ := open_arg (opens_slice (sz := 1) (K := kInt) Try.underlying42 (by kernel_rfl) (by decide) (opens_int Try.underlying3)) h
  obtain ⟨a, cap, hc, hr⟩ := rd_of_slice (f := fun n : Int => [.int .i64 n]) (fun _ => rfl) (hL.imp (fun x c h => h.1))
  refine ⟨L, a, cap, ?_, ?_⟩
  · obtain ⟨a', n', c', rfl⟩ := okWide_slice Try.underlying42 hv
    simp only [Value.cells] at hc
    exact List.head_eq_of_cons_eq hc
  · unfold ints
    rw [List.map_eq_flatMap]
    exact hr

def ArgCase (v : Value) (c : CaseM) : Prop := v = c.agg

set_option maxRecDepth 100000 in
theorem open_api_Case {r : Reach} {b0 : Nat} {H : Type} {enc : TypeId × Value → H} {w : World} {base : Nat} {sp : Nat → Bool} {held : Bool} {v : Value} {d : DataW H} {p : List MemPlace}
    (hv : Value.okWide Try.prog w r b0 67 v) (h : DataW.Trod enc Try.prog w base sp held 67 v d p) : ∃ c : CaseM, ArgCase v c := by
  obtain ⟨c, hc⟩ := open_arg opens_case h
  refine ⟨c, ?_⟩
  obtain ⟨cs, rfl, _⟩ := okWide_struct Try.underlying67 hv
  unfold kCase at hc
  simp only [Value.cells] at hc
  unfold ArgCase CaseM.agg
  congr 1
  exact Array.ext' hc

theorem act_at {w : World} {a : Option Addr} {n : Nat} {L : List ActR} (h : Rd w 6 a n (L.flatMap ActR.cells)) (k : Nat) (hk : k < L.length) : ∃ b off, a = some ⟨b, off, none⟩ ∧
    w.cell? ⟨b, off + k * 6, none⟩ = some (.int .i64 L[k].a.what) ∧ w.cell? ⟨b, off + k * 6 + 1, none⟩ = some (.int .i64 L[k].a.g) ∧ w.cell? ⟨b, off + k * 6 + 2, none⟩ = some (.bool L[k].a.c.send) ∧ w.cell? ⟨b, off + k * 6 + 3, none⟩ = some (.int .i64 L[k].a.c.chan) ∧ w.cell? ⟨b, off + k * 6 + 4, none⟩ = some (.int .i64 L[k].a.c.value) ∧ w.cell? ⟨b, off + k * 6 + 5, none⟩ = some (.slice L[k].la L[k].a.l.length L[k].lc) := by
  have hl := h.1
  rw [flat_length ActR.cells 6 (fun _ => rfl)] at hl
  obtain ⟨b, off, rfl, hc⟩ := h.2.2 (by omega)
  have key : ∀ j (hj : j < 6), ∀ u, (L[k].cells)[j]? = some u → w.cell? ⟨b, off + k * 6 + j, none⟩ = some u := fun j hj u hu => by
    rw [Nat.add_assoc]
    exact hc (k * 6 + j) u (by rw [flat_get ActR.cells 6 (fun _ => rfl) L k j hj hk]; exact hu)
  exact ⟨b, off, rfl, key 0 (by omega) _ rfl, key 1 (by omega) _ rfl, key 2 (by omega) _ rfl, key 3 (by omega) _ rfl, key 4 (by omega) _ rfl, key 5 (by omega) _ rfl⟩

def largeF (L : List ActR) : Bool := (L.any (fun x => 50 < x.a.l.length)) || 150 < L.length

theorem act_any (p : ActR → Bool) (L : List ActR) (k : Nat) (h : k < L.length) : (L.take (k + 1)).any p = ((L.take k).any p || p L[k]) := by
  rw [List.take_succ_eq_append_getElem h, List.any_append]
  simp

set_option maxRecDepth 100000 in
set_option maxHeartbeats 1000000 in
theorem l_large {w : World} {a : Option Addr} {cap : Nat} {L : List ActR} (hr : Rd w 6 a L.length (L.flatMap ActR.cells)) :
    Calls Try.prog 28 #[.slice a L.length cap] w fun e w' => e = .returned (.bool (largeF L)) ∧ Frm Nil w w' := by
  have hm := hr.2.1
  unfold maxLen at hm
  have H := SL.start w
  have HO : Reader (Old w) 6 a L.length (L.flatMap ActR.cells) := Reader.old hr
  go_enter Try.func28, Try.ntmps28
  go_wp2_with fail
  go_loopw [7] (fun i wr => ∃ k : Nat, k ≤ L.length ∧ i = .int .i64 k ∧ Frm Nil w wr ∧ Hid ((L.take k).any (fun x => decide (50 < x.a.l.length)) = false)) (fun i _ => L.length - (intOf i).toNat)
  case atStart => exact ⟨0, Nat.zero_le _, rfl, Frm.refl _ _, Lib.hid rfl⟩
  case round =>
    obtain ⟨k, hk, rfl, HR, hno⟩ := hrel
    by_cases hlt : k < L.length
    · obtain ⟨b, off, rfl, d0, d1, d2, d3, d4, d5⟩ := act_at (hr.nil HR) k hlt
      have ht := act_any (fun x => decide (50 < x.a.l.length)) L k hlt
      rw [hno.out, Bool.false_or] at ht
      have hin : L[k] ∈ L := List.getElem_mem hlt
      obtain ⟨x, hx⟩ : ∃ x, L[k] = x := ⟨_, rfl⟩
      rw [hx] at ht d0 d1 d2 d3 d4 d5 hin
      clear hno hx
      obtain ⟨⟨xw, xg, ⟨xs, xc, xv⟩, xl⟩, la, lc⟩ := x
      dsimp only at ht d0 d1 d2 d3 d4 d5 hin
      have HT := Lib.hid ht
      have HIN := Lib.hid hin
      clear ht hin
      by_cases h50 : 50 < xl.length
      · have e1 : decide ((50 : Int) < (xl.length : Int)) = true := by simp; omega
        have e2 : decide (50 < xl.length) = true := by simp; omega
        go_wp2_with fail
        go_ret
        refine ⟨?_, by repeat (first | with_reducible exact HR | apply Frm.drewN | apply Frm.drew | apply Frm.alloc)⟩
        congr 2
        unfold largeF
        rw [(List.any_eq_true (p := fun x : ActR => decide (50 < x.a.l.length))).2 ⟨_, HIN.out, by simpa using h50⟩]
        rfl
      · have e1 : decide ((50 : Int) < (xl.length : Int)) = false := by simp; omega
        have e2 : decide (50 < xl.length) = false := by simp; omega
        go_wp2_with fail
        go_roundw
        case rel => exact ⟨k + 1, by omega, by go_num, (by repeat (first | with_reducible exact HR | apply Frm.drewN | apply Frm.drew | apply Frm.alloc)), Lib.hid (by rw [HT.out]; simpa using h50)⟩
        case measure => simp [intOf]; omega
    · have hkn : k = L.length := by omega
      have HK := Lib.hid hkn
      clear hkn
      go_wp2_with fail
      go_ret
      refine ⟨?_, HR⟩
      have ho := hno.out
      rw [HK.out, List.take_length] at ho
      congr 2
      unfold largeF
      rw [ho]
      simp; omega

end Go.Proofs.Ytlccpbdpfamekaa
