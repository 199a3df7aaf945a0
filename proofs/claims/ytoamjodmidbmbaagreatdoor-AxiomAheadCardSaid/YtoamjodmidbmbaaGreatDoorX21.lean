/- Texts of the proof. -/
import Derived.Test.YtoamjodmidbmbaaGreatDoorX20
import Derived.Test.YtoamjodmidbmbaaGreatDoorX05
set_option linter.unusedVariables false
set_option linter.unusedSimpArgs false
namespace Go.Proofs.YtoamjodmidbmbaaGreatDoor
open Go.RowKit
set_option maxRecDepth 100000
section
variable {l : List Ev} {E : List Edg} {e : Edg} {j a b : Nat}
theorem rel_step (h : E[j]? = some e) : setR (relE (E.take j)) e.src e.dst a b = relE (E.take (j + 1)) a b := by
 unfold setR relE
 rw [List.take_add_one, h, Option.toList_some, List.any_append, List.any_cons, List.any_nil, Bool.or_false, Bool.or_comm]
 congr 1
 rw [Bool.eq_iff_iff]
 simp only [Bool.and_eq_true, beq_iff_eq]
 omega
theorem check_yes (h : rightF l = true) : (checkG l).1 = 0 ∨ ((checkG l).1 ≠ 0 ∧ (checkG l).1 = 4 ∧ ((checkG l).2 : Int) = (l.length : Int)) := by
 unfold rightF at h
 simp only [Bool.or_eq_true, Bool.and_eq_true, beq_iff_eq] at h
 rcases h with h | ⟨h1, h2⟩
 ·exact .inl h
 ·exact .inr ⟨by omega, h1, by omega⟩
theorem check_no (h : rightF l = false) : ((checkG l).1 ≠ 0 ∧ (checkG l).1 ≠ 4) ∨ ((checkG l).1 ≠ 0 ∧ (checkG l).1 = 4 ∧ ((checkG l).2 : Int) ≠ (l.length : Int)) := by
 unfold rightF at h
 simp only [Bool.or_eq_false_iff, Bool.and_eq_false_iff, beq_eq_false_iff_ne] at h
 obtain ⟨h1, h2⟩ := h
 by_cases h4 : (checkG l).1 = 4
 ·exact .inr ⟨h1, h4, by have := h2.resolve_left (fun e => e h4); omega⟩
 ·exact .inl ⟨h1, h4⟩
end
theorem x_of_no {w : World} {F : List Piece} {A : Piece} {lb lo lc : Nat} {l : List Ev} (hA : EvA A lb lo l) (hG : SpansA A) (h0 : 0 < l.length) (hll : l.length ≤ 60) (hr : rightF l = false) (H : SL w (A :: F)) : Calls Tryz.prog 45 #[.slice (some ⟨lb, lo, none⟩) l.length lc] w fun o w' => o = .returned (.tuple #[.agg #[.slice none 0 0, .pointer none], .int .i64 4]) ∧ SL w' (A :: F) := by
 rcases check_no hr with ⟨hc1, hc2⟩ | ⟨hc1, hc2, hc3⟩
 ·refine calls_d (args := [_]) Tryz.func45 rfl ?_
  refine ⟨Nw.as #[.slice none 0 0, .pointer none] 89 rfl H fun b2 w H => ?_⟩
  refine ⟨?_⟩
  have h1 := H.pi [1, 0] 2
  simp only [pl, nth, drL] at h1
  refine Cl.s (g_check hA hG h0 (by omega) h1) fun w H => ?_
  replace H := H.pi [1, 0] 2
  simp only [pl, nth, drL] at H
  refine ⟨BB.yes (bne_iff_ne.2 hc1) ?_⟩
  refine BB.yes (bne_iff_ne.2 hc2) (Cn.yes (⟨Mn.pure (.agg #[.slice none 0 0, .pointer none]) (by kernel_rfl) ?_⟩))
  refine H.st0 (cs' := #[.slice none 0 0, .pointer none]) rfl rfl rfl fun w H => ?_
  refine H.st0 (cs' := #[.slice none 0 0, .pointer none]) rfl rfl rfl fun w H => ?_
  refine retCT H 0 rfl rfl (by rfl) (by rfl) (by kernel_rfl) (by kernel_rfl) ?_
  exact ⟨rfl, H.pi [1] 2⟩
 refine calls_d (args := [_]) Tryz.func45 rfl ?_
 refine ⟨Nw.as #[.slice none 0 0, .pointer none] 89 rfl H fun b2 w H => ?_⟩
 refine ⟨?_⟩
 have h1 := H.pi [1, 0] 2
 simp only [pl, nth, drL] at h1
 refine Cl.s (g_check hA hG h0 (by omega) h1) fun w H => ?_
 replace H := H.pi [1, 0] 2
 simp only [pl, nth, drL] at H
 refine ⟨BB.yes (bne_iff_ne.2 hc1) ?_⟩
 refine BB.no (bne_eq_false_iff_eq.2 hc2) (BB.yes (bne_iff_ne.2 hc3) (Cn.yes (⟨Mn.pure (.agg #[.slice none 0 0, .pointer none]) (by kernel_rfl) ?_⟩)))
 refine H.st0 (cs' := #[.slice none 0 0, .pointer none]) rfl rfl rfl fun w H => ?_
 refine H.st0 (cs' := #[.slice none 0 0, .pointer none]) rfl rfl rfl fun w H => ?_
 refine retCT H 0 rfl rfl (by rfl) (by rfl) (by kernel_rfl) (by kernel_rfl) ?_
 exact ⟨rfl, H.pi [1] 2⟩
theorem x_of {w : World} {F : List Piece} {A : Piece} {lb lo lc : Nat} {l : List Ev} (hA : EvA A lb lo l) (hG : SpansA A) (h0 : 0 < l.length) (hll : l.length ≤ 60) (hr : rightF l = true) (H : SL w (A :: F)) : Calls Tryz.prog 45 #[.slice (some ⟨lb, lo, none⟩) l.length lc] w fun o w' => ∃ p, o = .returned (.tuple #[.agg #[.slice (some ⟨lb, lo, none⟩) l.length lc, .pointer (some ⟨p, 0, none⟩)], .int .i64 0]) ∧ SL w' (MatP p l.length (ahF l) :: A :: F) := by
 have hR := right_iff.1 hr
 have hal := all_le hr (by omega)
 rcases check_yes hr with hc1 | ⟨hc1, hc2, hc3⟩
 ·refine calls_d (args := [_]) Tryz.func45 rfl ?_
  refine ⟨Nw.as #[.slice none 0 0, .pointer none] 89 rfl H fun b2 w H => ?_⟩
  refine ⟨?_⟩
  have h1 := H.pi [1, 0] 2
  simp only [pl, nth, drL] at h1
  refine Cl.s (g_check hA hG h0 (by omega) h1) fun w H => ?_
  replace H := H.pi [1, 0] 2
  simp only [pl, nth, drL] at H
  refine ⟨BB.no (bne_eq_false_iff_eq.2 hc1) ?_⟩
  refine Cn.no (⟨Cl.b (m_new (n := l.length) (by omega) H) ?_⟩)
  rintro _ w ⟨p, rfl, H⟩
  refine ⟨_, rfl, ?_⟩
  refine ⟨BB.no rfl ?_⟩
  refine Cn.no (⟨?_⟩)
  have h1 := H.pi [2, 0, 1] 3
  simp only [pl, nth, drL] at h1
  refine Cl.b (e_all hA hG h0 (by omega) hr h1) ?_
  rintro _ w ⟨xa, xc, rfl, H⟩
  refine ⟨_, rfl, ?_⟩
  replace H := H.pi [0, 2, 3, 1] 4
  simp only [pl, nth, drL] at H
  refine ⟨⟨den.loop (ι := Nat) [(10, 10), (45, 55)] (by kernel_rfl) (fun j => [(45, .int .i64 ↑j)]) (fun j w => j ≤ (allE l).length ∧ SL w (MatP p l.length (relE ((allE l).take j)) :: Slc 70 3 (.slice xa ((allE l).length) xc) ((allE l).length) ((allE l).flatMap Edg.cells) :: A :: row b2 #[.slice none 0 0, .pointer none] 89 :: F)) (fun j => (allE l).length - j) 0 ⟨rfl, trivial⟩ ⟨Nat.zero_le _, (H.pi [1, 0, 3, 2] 4)⟩ ?_⟩⟩
  rintro j s w ⟨hj0, H⟩
  have hob := Nat.lt_or_ge j (allE l).length
  rcases hob with hj | hj
  ·have hob : ∃ e, (allE l)[j]? = some e := ⟨_, get_of hj⟩
   obtain ⟨e, hez⟩ := hob
   have hob := SL.slcAddr H.up1 (by omega)
   obtain ⟨xb, rfl⟩ := hob
   have hob := (mem_all hR).1 (List.mem_of_getElem? hez)
   obtain ⟨ez1, ez2, _⟩ := hob
   refine ⟨BB.yd ?_⟩
   refine Cn.yes (⟨⟨Ix.at0 j 3 (by kernel_rfl) (rfl) (hj) ?_⟩⟩)
   refine H.ldS 1 rfl (v := .int .i64 ↑e.src) ((edg_at hez 0 (by decide)).trans rfl) (H.ldS 1 rfl (v := .int .i64 ↑e.dst) ((edg_at hez 1 (by decide)).trans rfl) (H.ldS 1 rfl (v := .int .i64 ↑e.rule) ((edg_at hez 2 (by decide)).trans rfl) (Nw.as #[.int .i64 0, .int .i64 0, .int .i64 0] 70 rfl H fun b10 w H => ?_)))
   refine H.st0 (cs' := #[.int .i64 ↑e.src, .int .i64 0, .int .i64 0]) rfl rfl rfl fun w H => ?_
   refine H.st0 (cs' := #[.int .i64 ↑e.src, .int .i64 ↑e.dst, .int .i64 0]) rfl rfl rfl fun w H => ?_
   refine H.st0 (cs' := #[.int .i64 ↑e.src, .int .i64 ↑e.dst, .int .i64 ↑e.rule]) rfl rfl rfl fun w H => ?_
   refine ⟨H.ldi 0 rfl (v := .int .i64 ↑e.src) rfl ?_⟩
   refine H.ldi 0 rfl (v := .int .i64 ↑e.dst) rfl ?_
   have h1 := H.pi [1, 0, 2, 3, 4] 5
   simp only [pl, nth, drL] at h1
   refine Cl.s (m_set (i := e.src) (k := e.dst) (by omega) (by omega) (by omega) h1) fun w H => ?_
   replace H := H.pi [1, 0, 2, 3, 4] 5
   simp only [pl, nth, drL] at H
   refine ⟨IW.i j ?_⟩
   have q := MatP.same (R := relE ((allE l).take (j + 1))) (fun a b _ _ => rel_step hez) (H.pi [1, 2, 3, 4] 5)
   exact ⟨j + 1, ⟨rfl, trivial⟩, ⟨(by omega : j + 1 ≤ (allE l).length), q⟩, (show (allE l).length - (j + 1) < (allE l).length - j by omega)⟩
  have hob : j = (allE l).length := by omega
  obtain rfl := hob
  rw [List.take_length] at H
  refine ⟨BB.nd ?_⟩
  refine Cn.no (⟨?_⟩)
  have h1 := H
  refine Cl.s (m_close (by omega) h1) fun w H => ?_
  refine ⟨Mn.pure (.agg #[.slice (some ⟨lb, lo, none⟩) l.length lc, .pointer (some ⟨p, 0, none⟩)]) (by kernel_rfl) ?_⟩
  refine H.st3 (cs' := #[.slice (some ⟨lb, lo, none⟩) l.length lc, .pointer none]) rfl rfl rfl fun w H => ?_
  refine H.st3 (cs' := #[.slice (some ⟨lb, lo, none⟩) l.length lc, .pointer (some ⟨p, 0, none⟩)]) rfl rfl rfl fun w H => ?_
  refine retCT H 3 rfl rfl (by rfl) (by rfl) (by kernel_rfl) (by kernel_rfl) ?_
  exact ⟨p, rfl, H.pi [0, 2] 4⟩
 refine calls_d (args := [_]) Tryz.func45 rfl ?_
 refine ⟨Nw.as #[.slice none 0 0, .pointer none] 89 rfl H fun b2 w H => ?_⟩
 refine ⟨?_⟩
 have h1 := H.pi [1, 0] 2
 simp only [pl, nth, drL] at h1
 refine Cl.s (g_check hA hG h0 (by omega) h1) fun w H => ?_
 replace H := H.pi [1, 0] 2
 simp only [pl, nth, drL] at H
 refine ⟨BB.yes (bne_iff_ne.2 hc1) ?_⟩
 refine BB.no (bne_eq_false_iff_eq.2 hc2) (BB.no (bne_eq_false_iff_eq.2 hc3) (Cn.no (⟨Cl.b (m_new (n := l.length) (by omega) H) ?_⟩)))
 rintro _ w ⟨p, rfl, H⟩
 refine ⟨_, rfl, ?_⟩
 refine ⟨BB.no rfl ?_⟩
 refine Cn.no (⟨?_⟩)
 have h1 := H.pi [2, 0, 1] 3
 simp only [pl, nth, drL] at h1
 refine Cl.b (e_all hA hG h0 (by omega) hr h1) ?_
 rintro _ w ⟨xa, xc, rfl, H⟩
 refine ⟨_, rfl, ?_⟩
 replace H := H.pi [0, 2, 3, 1] 4
 simp only [pl, nth, drL] at H
 refine ⟨⟨den.loop (ι := Nat) [(10, 10), (45, 55)] (by kernel_rfl) (fun j => [(45, .int .i64 ↑j)]) (fun j w => j ≤ (allE l).length ∧ SL w (MatP p l.length (relE ((allE l).take j)) :: Slc 70 3 (.slice xa ((allE l).length) xc) ((allE l).length) ((allE l).flatMap Edg.cells) :: A :: row b2 #[.slice none 0 0, .pointer none] 89 :: F)) (fun j => (allE l).length - j) 0 ⟨rfl, trivial⟩ ⟨Nat.zero_le _, (H.pi [1, 0, 3, 2] 4)⟩ ?_⟩⟩
 rintro j s w ⟨hj0, H⟩
 have hob := Nat.lt_or_ge j (allE l).length
 rcases hob with hj | hj
 ·have hob : ∃ e, (allE l)[j]? = some e := ⟨_, get_of hj⟩
  obtain ⟨e, hez⟩ := hob
  have hob := SL.slcAddr H.up1 (by omega)
  obtain ⟨xb, rfl⟩ := hob
  have hob := (mem_all hR).1 (List.mem_of_getElem? hez)
  obtain ⟨ez1, ez2, _⟩ := hob
  refine ⟨BB.yd ?_⟩
  refine Cn.yes (⟨⟨Ix.at0 j 3 (by kernel_rfl) (rfl) (hj) ?_⟩⟩)
  refine H.ldS 1 rfl (v := .int .i64 ↑e.src) ((edg_at hez 0 (by decide)).trans rfl) (H.ldS 1 rfl (v := .int .i64 ↑e.dst) ((edg_at hez 1 (by decide)).trans rfl) (H.ldS 1 rfl (v := .int .i64 ↑e.rule) ((edg_at hez 2 (by decide)).trans rfl) (Nw.as #[.int .i64 0, .int .i64 0, .int .i64 0] 70 rfl H fun b10 w H => ?_)))
  refine H.st0 (cs' := #[.int .i64 ↑e.src, .int .i64 0, .int .i64 0]) rfl rfl rfl fun w H => ?_
  refine H.st0 (cs' := #[.int .i64 ↑e.src, .int .i64 ↑e.dst, .int .i64 0]) rfl rfl rfl fun w H => ?_
  refine H.st0 (cs' := #[.int .i64 ↑e.src, .int .i64 ↑e.dst, .int .i64 ↑e.rule]) rfl rfl rfl fun w H => ?_
  refine ⟨H.ldi 0 rfl (v := .int .i64 ↑e.src) rfl ?_⟩
  refine H.ldi 0 rfl (v := .int .i64 ↑e.dst) rfl ?_
  have h1 := H.pi [1, 0, 2, 3, 4] 5
  simp only [pl, nth, drL] at h1
  refine Cl.s (m_set (i := e.src) (k := e.dst) (by omega) (by omega) (by omega) h1) fun w H => ?_
  replace H := H.pi [1, 0, 2, 3, 4] 5
  simp only [pl, nth, drL] at H
  refine ⟨IW.i j ?_⟩
  have q := MatP.same (R := relE ((allE l).take (j + 1))) (fun a b _ _ => rel_step hez) (H.pi [1, 2, 3, 4] 5)
  exact ⟨j + 1, ⟨rfl, trivial⟩, ⟨(by omega : j + 1 ≤ (allE l).length), q⟩, (show (allE l).length - (j + 1) < (allE l).length - j by omega)⟩
 have hob : j = (allE l).length := by omega
 obtain rfl := hob
 rw [List.take_length] at H
 refine ⟨BB.nd ?_⟩
 refine Cn.no (⟨?_⟩)
 have h1 := H
 refine Cl.s (m_close (by omega) h1) fun w H => ?_
 refine ⟨Mn.pure (.agg #[.slice (some ⟨lb, lo, none⟩) l.length lc, .pointer (some ⟨p, 0, none⟩)]) (by kernel_rfl) ?_⟩
 refine H.st3 (cs' := #[.slice (some ⟨lb, lo, none⟩) l.length lc, .pointer none]) rfl rfl rfl fun w H => ?_
 refine H.st3 (cs' := #[.slice (some ⟨lb, lo, none⟩) l.length lc, .pointer (some ⟨p, 0, none⟩)]) rfl rfl rfl fun w H => ?_
 refine retCT H 3 rfl rfl (by rfl) (by rfl) (by kernel_rfl) (by kernel_rfl) ?_
 exact ⟨p, rfl, H.pi [0, 2] 4⟩
theorem x_of_nil {w : World} {F : List Piece} {la : Option Addr} {lc : Nat} (H : SL w F) : Calls Tryz.prog 45 #[.slice la 0 lc] w fun o w' => ∃ p, o = .returned (.tuple #[.agg #[.slice la 0 lc, .pointer (some ⟨p, 0, none⟩)], .int .i64 0]) ∧ SL w' (MatP p 0 (cloR (fun _ _ => false) 0) :: F) := by
 refine calls_d (args := [_]) Tryz.func45 rfl ?_
 refine ⟨Nw.as #[.slice none 0 0, .pointer none] 89 rfl H fun b2 w H => ?_⟩
 refine ⟨Cl.s (e_chk_nil H) fun w H => ?_⟩
 refine ⟨BB.no rfl ?_⟩
 refine Cn.no (⟨Cl.b (m_new (n := 0) (by omega) H) ?_⟩)
 rintro _ w ⟨p, rfl, H⟩
 refine ⟨_, rfl, ?_⟩
 refine ⟨BB.no rfl ?_⟩
 refine Cn.no (⟨Cl.b (e_all_nil H) ?_⟩)
 rintro _ w ⟨xa, xc, rfl, H⟩
 refine ⟨_, rfl, ?_⟩
 refine ⟨⟨den.loop (ι := Nat) [(10, 10), (45, 55)] (by kernel_rfl) (fun j => [(45, .int .i64 ↑j)]) (fun j w => j ≤ 0 ∧ SL w (MatP p 0 (fun _ _ => false) :: Slc 70 3 (.slice xa 0 xc) 0 ([]) :: row b2 #[.slice none 0 0, .pointer none] 89 :: F)) (fun j => 0 - j) 0 ⟨rfl, trivial⟩ ⟨Nat.zero_le _, (H.pi [1, 0, 2] 3)⟩ ?_⟩⟩
 rintro j s w ⟨hj0, H⟩
 have hob : j = 0 := by omega
 obtain rfl := hob
 refine ⟨BB.no rfl ?_⟩
 refine Cn.no (⟨?_⟩)
 have h1 := H
 refine Cl.s (m_close (by omega) h1) fun w H => ?_
 refine ⟨Mn.pure (.agg #[.slice la 0 lc, .pointer (some ⟨p, 0, none⟩)]) (by kernel_rfl) ?_⟩
 refine H.st2 (cs' := #[.slice la 0 lc, .pointer none]) rfl rfl rfl fun w H => ?_
 refine H.st2 (cs' := #[.slice la 0 lc, .pointer (some ⟨p, 0, none⟩)]) rfl rfl rfl fun w H => ?_
 refine retCT H 2 rfl rfl (by rfl) (by rfl) (by kernel_rfl) (by kernel_rfl) ?_
 exact ⟨p, rfl, H.pi [0] 3⟩
def colU (M : Nat → Nat → Bool) (k : Nat) : Nat → List Nat
 | 0 => []
 | i + 1 => colU M k i ++ (if M i k = true then [i] else [])
theorem colU_len {M : Nat → Nat → Bool} {k : Nat} : ∀ {i : Nat}, (colU M k i).length ≤ i
 | 0 => Nat.le_refl _
 | i + 1 => by
  have := colU_len (M := M) (k := k) (i := i)
  rw [colU, List.length_append]
  split
  ·rw [List.length_cons, List.length_nil]; omega
  ·rw [List.length_nil]; omega
theorem colU_lt {M : Nat → Nat → Bool} {k x : Nat} : ∀ {i : Nat}, x ∈ colU M k i → x < i ∧ M x k = true
 | 0, h => by cases h
 | i + 1, h => by
  rw [colU, List.mem_append] at h
  rcases h with h | h
  ·have := colU_lt h
   exact ⟨by omega, this.2⟩
  ·split at h
   ·rw [List.mem_singleton] at h
    subst h
    exact ⟨Nat.lt_succ_self _, by assumption⟩
   ·cases h
theorem x_ahead_no {w : World} {F : List Piece} {A : Piece} {lb lo lc : Nat} {l : List Ev} (hA : EvA A lb lo l) (hlc : l.length ≤ lc) (hG : SpansA A) (h0 : 0 < l.length) (hll : l.length ≤ 60) (hr : rightF l = false) (H : SL w (A :: F)) : Calls Tryz.prog 21 #[.slice (some ⟨lb, lo, none⟩) l.length lc] w fun o w' => o = .returned (.tuple #[.pointer none, .int .i64 4]) ∧ SL w' (A :: F) := by
 refine calls_d (args := [_]) Tryz.func21 rfl ?_
 refine ⟨?_⟩
 refine ⟨?_⟩
 have h1 := H
 refine Cl.s (x_of_no hA hG h0 hll hr h1) fun w H => ?_
 refine Nw.as #[.slice none 0 0, .pointer none] 89 rfl H fun b4 w H => ?_
 refine H.st0 (cs' := #[.slice none 0 0, .pointer none]) rfl rfl rfl fun w H => ?_
 refine H.st0 (cs' := #[.slice none 0 0, .pointer none]) rfl rfl rfl fun w H => ?_
 refine ⟨?_⟩
 refine H.ldi 0 rfl (v := .pointer none) rfl (ret2 (.pointer none) (.int .i64 4) rfl (by rfl) (by rfl) ?_)
 exact ⟨rfl, H.pi [1] 2⟩
theorem x_ahead {w : World} {F : List Piece} {A : Piece} {lb lo lc : Nat} {l : List Ev} (hA : EvA A lb lo l) (hlc : l.length ≤ lc) (hG : SpansA A) (h0 : 0 < l.length) (hll : l.length ≤ 60) (hr : rightF l = true) (H : SL w (A :: F)) : Calls Tryz.prog 21 #[.slice (some ⟨lb, lo, none⟩) l.length lc] w fun o w' => ∃ p, o = .returned (.tuple #[.pointer (some ⟨p, 0, none⟩), .int .i64 0]) ∧ SL w' (MatP p l.length (ahF l) :: A :: F) := by
 refine calls_d (args := [_]) Tryz.func21 rfl ?_
 refine ⟨?_⟩
 refine ⟨?_⟩
 have h1 := H
 refine Cl.b (x_of hA hG h0 hll hr h1) ?_
 rintro _ w ⟨p, rfl, H⟩
 refine ⟨_, rfl, ?_⟩
 refine Nw.as #[.slice none 0 0, .pointer none] 89 rfl H fun b4 w H => ?_
 refine H.st0 (cs' := #[.slice (some ⟨lb, lo, none⟩) l.length lc, .pointer none]) rfl rfl rfl fun w H => ?_
 refine H.st0 (cs' := #[.slice (some ⟨lb, lo, none⟩) l.length lc, .pointer (some ⟨p, 0, none⟩)]) rfl rfl rfl fun w H => ?_
 refine ⟨?_⟩
 refine H.ldi 0 rfl (v := .pointer (some ⟨p, 0, none⟩)) rfl (ret2 (.pointer (some ⟨p, 0, none⟩)) (.int .i64 0) rfl (by rfl) (by rfl) ?_)
 exact ⟨p, rfl, H.pi [1, 2] 3⟩
theorem x_ahead_nil {w : World} {F : List Piece} {la : Option Addr} {lc : Nat} (H : SL w F) : Calls Tryz.prog 21 #[.slice la 0 lc] w fun o w' => ∃ p, o = .returned (.tuple #[.pointer (some ⟨p, 0, none⟩), .int .i64 0]) ∧ SL w' (MatP p 0 (cloR (fun _ _ => false) 0) :: F) := by
 refine calls_d (args := [_]) Tryz.func21 rfl ?_
 refine ⟨?_⟩
 refine ⟨?_⟩
 refine Cl.b (x_of_nil H) ?_
 rintro _ w ⟨p, rfl, H⟩
 refine ⟨_, rfl, ?_⟩
 refine Nw.as #[.slice none 0 0, .pointer none] 89 rfl H fun b4 w H => ?_
 refine H.st0 (cs' := #[.slice la 0 lc, .pointer none]) rfl rfl rfl fun w H => ?_
 refine H.st0 (cs' := #[.slice la 0 lc, .pointer (some ⟨p, 0, none⟩)]) rfl rfl rfl fun w H => ?_
 refine ⟨?_⟩
 refine H.ldi 0 rfl (v := .pointer (some ⟨p, 0, none⟩)) rfl (ret2 (.pointer (some ⟨p, 0, none⟩)) (.int .i64 0) rfl (by rfl) (by rfl) ?_)
 exact ⟨p, rfl, H.pi [1] 2⟩
set_option maxHeartbeats 2000000 in
theorem x_races {w : World} {F : List Piece} {A : Piece} {lb lo lc : Nat} {l : List Ev} (hA : EvA A lb lo l) (hlc : l.length ≤ lc) {p a b : Nat} (ha : a < l.length) (hb : b < l.length) (hll : l.length ≤ 1000) (H : SL w (MatP p l.length (ahF l) :: A :: F)) : Calls Tryz.prog 53 #[.agg #[.slice (some ⟨lb, lo, none⟩) l.length lc, .pointer (some ⟨p, 0, none⟩)], .int .i64 (a : Int), .int .i64 (b : Int)] w fun o w' => o = .returned (.bool (raceF l a b)) ∧ SL w' (MatP p l.length (ahF l) :: A :: F) := by
 obtain ⟨⟨kind, g, chan, case_, value, mate, send, ok⟩, he⟩ : ∃ x, l[a]? = some x := ⟨_, get_of ha⟩
 have hd : l.getD a evz = ⟨kind, g, chan, case_, value, mate, send, ok⟩ := by rw [List.getD_eq_getElem?_getD, he]; rfl
 obtain ⟨⟨ykind, yg, ychan, ycase_, yvalue, ymate, ysend, yok⟩, hy⟩ : ∃ x, l[b]? = some x := ⟨_, get_of hb⟩
 have hdy : l.getD b evz = ⟨ykind, yg, ychan, ycase_, yvalue, ymate, ysend, yok⟩ := by rw [List.getD_eq_getElem?_getD, hy]; rfl
 refine calls_d (args := [_, _, _]) Tryz.func53 rfl ?_
 refine ⟨Nw.as #[.slice (some ⟨lb, lo, none⟩) l.length lc, .pointer (some ⟨p, 0, none⟩)] 89 rfl H fun b3 w H => ?_⟩
 refine RgX.cut (id := 1) (ι := Nat × Nat) [(7, 18)] (by kernel_rfl) (fun (bx, by_) => [(7, .pointer (some ⟨bx, 0, none⟩)), (8, .pointer (some ⟨by_, 0, none⟩))]) (fun (bx, by_) w => True ∧ SL w (row bx #[.int .i64 kind, .int .i64 g, .int .i64 chan, .int .i64 case_, .int .i64 value, .int .i64 mate, .bool send, .bool ok] 53 :: row by_ #[.int .i64 ykind, .int .i64 yg, .int .i64 ychan, .int .i64 ycase_, .int .i64 yvalue, .int .i64 ymate, .bool ysend, .bool yok] 53 :: row b3 #[.slice (some ⟨lb, lo, none⟩) l.length lc, .pointer (some ⟨p, 0, none⟩)] 89 :: MatP p l.length (ahF l) :: A :: F)) ?_ ?_
 ·refine ⟨Drw.oft (.calm 0 (.calm 1 (.calm 2 (.calm 3 (.calm 4 (.calm 5 (.calm 6 (.calm 7 (.calm 8 (.calm 9 (.two 10 false (.act 11 false (.act 12 false (.act 13 true .nil))) 11 false (.act 10 false (.act 12 false (.act 13 true .nil)))))))))))))) (by kernel_rfl) mixed (fun w => SL w _) H.drew ?_⟩
  replace H := H.drew
  refine LdC.i 0 rfl (v := .slice (some ⟨lb, lo, none⟩) l.length lc) rfl (Ix.at a 8 (by kernel_rfl) (rfl) (by omega) ?_)
  refine LdC.ev 2 rfl hA a he (LdC.i 0 rfl (v := .slice (some ⟨lb, lo, none⟩) l.length lc) rfl (Ix.at b 8 (by kernel_rfl) (rfl) (by omega) ?_))
  refine LdC.ev 2 rfl hA b hy ?_
  refine ⟨?_, ?_⟩
  ·refine Nw.as ev0C 53 rfl H fun b7 w H => ?_
   refine ⟨.inr (H.pi [1, 2, 3] 4), ?_⟩
   refine Nw.as ev0C 53 rfl H fun b8 w H => ?_
   refine ⟨.inr (H.pi [2, 3, 4] 5), ?_⟩
   refine SL.stEv H.up1 rfl rfl fun w H => ?_
   replace H := H.dn1
   refine ⟨.inr (H.pi [2, 3, 4] 5), ?_⟩
   refine SL.stEv H rfl rfl fun w H => ?_
   refine ⟨.inl rfl, ?_⟩
   exact ⟨(b7, b8), ⟨rfl, rfl, trivial⟩, trivial, (H.pi [1, 0, 2, 3, 4] 5)⟩
  refine Nw.as ev0C 53 rfl H fun b8 w H => ?_
  refine ⟨.inr (H.pi [1, 2, 3] 4), ?_⟩
  refine Nw.as ev0C 53 rfl H fun b7 w H => ?_
  refine ⟨.inr (H.pi [2, 3, 4] 5), ?_⟩
  refine SL.stEv H rfl rfl fun w H => ?_
  refine ⟨.inr (H.pi [2, 3, 4] 5), ?_⟩
  refine SL.stEv H.up1 rfl rfl fun w H => ?_
  replace H := H.dn1
  refine ⟨.inl rfl, ?_⟩
  exact ⟨(b7, b8), ⟨rfl, rfl, trivial⟩, trivial, (H)⟩
 rintro ⟨bx, by_⟩ s w ⟨hc, H⟩
 refine ⟨H.ldi 0 rfl (v := .int .i64 g) rfl ?_⟩
 refine H.ldi 1 rfl (v := .int .i64 yg) rfl (BB.vr fun q1 e1 => ?_)
 cases q1
 ·have h1 := bne_eq_false_iff_eq.1 e1
  refine ret1 (.bool false) rfl (by rfl) ?_
  have hq : raceF l a b = (false) := by
   unfold raceF
   rw [hd, hdy]
   dsimp only
   rw [show (g != yg) = false from bne_eq_false_iff_eq.2 (by omega)]
   first | rfl | simp
  exact ⟨by rw [hq], H.pi [3, 4] 5⟩
 have h1 := bne_iff_ne.1 e1
 refine H.ldi 0 rfl (v := .int .i64 kind) rfl (BB.vr fun q2 e2 => ?_)
 cases q2
 ·have h2 := neq_of e2
  refine H.ldi 1 rfl (v := .int .i64 ykind) rfl (BB.vr fun q3 e3 => ?_)
  cases q3
  ·have h3 := neq_of e3
   refine ret1 (.bool false) rfl (by rfl) ?_
   have hq : raceF l a b = (false) := by
    unfold raceF
    rw [hd, hdy]
    dsimp only
    rw [show (g != yg) = true from bne_iff_ne.2 (by omega)]
    rw [show (kind == 10) = false from beq_eq_false_iff_ne.2 (by omega)]
    rw [show (ykind == 10) = false from beq_eq_false_iff_ne.2 (by omega)]
    first | rfl | simp
   exact ⟨by rw [hq], H.pi [3, 4] 5⟩
  have h3 := eq_of_beq e3
  refine H.ldi 2 rfl (v := .pointer (some ⟨p, 0, none⟩)) rfl ?_
  have h1 := H.pi [3, 0, 1, 2, 4] 5
  simp only [pl, nth, drL] at h1
  have K := m_has (i := a) (k := b) (by omega) (by omega) (by omega) h1
  have hob : ∃ bq0 : Bool, ahF l a b = bq0 := ⟨_, rfl⟩
  obtain ⟨bq, hab⟩ := hob
  cases bq
  ·rw [hab] at K
   refine Cl.s K fun w H => ?_
   replace H := H.pi [1, 2, 3, 0, 4] 5
   simp only [pl, nth, drL] at H
   refine BB.no rfl (BB.yes rfl (H.ldi 2 rfl (v := .pointer (some ⟨p, 0, none⟩)) rfl ?_))
   have h1 := H.pi [3, 0, 1, 2, 4] 5
   simp only [pl, nth, drL] at h1
   have K := m_has (i := b) (k := a) (by omega) (by omega) (by omega) h1
   have hob : ∃ bq0 : Bool, ahF l b a = bq0 := ⟨_, rfl⟩
   obtain ⟨bq, hba⟩ := hob
   cases bq
   ·rw [hba] at K
    refine Cl.s K fun w H => ?_
    replace H := H.pi [1, 2, 3, 0, 4] 5
    simp only [pl, nth, drL] at H
    refine BB.no rfl (BB.yes rfl (ret1 (.bool true) rfl (by rfl) ?_))
    have hq : raceF l a b = (true) := by
     unfold raceF
     rw [hd, hdy, hab, hba]
     dsimp only
     rw [show (g != yg) = true from bne_iff_ne.2 (by omega)]
     rw [show (kind == 10) = false from beq_eq_false_iff_ne.2 (by omega)]
     rw [show (ykind == 10) = true from beq_iff_eq.2 (by omega)]
     first | rfl | simp
    exact ⟨by rw [hq], H.pi [3, 4] 5⟩
   rw [hba] at K
   refine Cl.s K fun w H => ?_
   replace H := H.pi [1, 2, 3, 0, 4] 5
   simp only [pl, nth, drL] at H
   refine BB.yes rfl (BB.no rfl (ret1 (.bool false) rfl (by rfl) ?_))
   have hq : raceF l a b = (false) := by
    unfold raceF
    rw [hd, hdy, hab, hba]
    dsimp only
    rw [show (g != yg) = true from bne_iff_ne.2 (by omega)]
    rw [show (kind == 10) = false from beq_eq_false_iff_ne.2 (by omega)]
    rw [show (ykind == 10) = true from beq_iff_eq.2 (by omega)]
    first | rfl | simp
   exact ⟨by rw [hq], H.pi [3, 4] 5⟩
  rw [hab] at K
  refine Cl.s K fun w H => ?_
  replace H := H.pi [1, 2, 3, 0, 4] 5
  simp only [pl, nth, drL] at H
  refine BB.yes rfl (BB.no rfl (ret1 (.bool false) rfl (by rfl) ?_))
  have hq : raceF l a b = (false) := by
   unfold raceF
   rw [hd, hdy, hab]
   dsimp only
   rw [show (g != yg) = true from bne_iff_ne.2 (by omega)]
   rw [show (kind == 10) = false from beq_eq_false_iff_ne.2 (by omega)]
   rw [show (ykind == 10) = true from beq_iff_eq.2 (by omega)]
   first | rfl | simp
  exact ⟨by rw [hq], H.pi [3, 4] 5⟩
 have h2 := eq_of_beq e2
 refine H.ldi 2 rfl (v := .pointer (some ⟨p, 0, none⟩)) rfl ?_
 have h1 := H.pi [3, 0, 1, 2, 4] 5
 simp only [pl, nth, drL] at h1
 have K := m_has (i := a) (k := b) (by omega) (by omega) (by omega) h1
 have hob : ∃ bq0 : Bool, ahF l a b = bq0 := ⟨_, rfl⟩
 obtain ⟨bq, hab⟩ := hob
 cases bq
 ·rw [hab] at K
  refine Cl.s K fun w H => ?_
  replace H := H.pi [1, 2, 3, 0, 4] 5
  simp only [pl, nth, drL] at H
  refine BB.no rfl (BB.yes rfl (H.ldi 2 rfl (v := .pointer (some ⟨p, 0, none⟩)) rfl ?_))
  have h1 := H.pi [3, 0, 1, 2, 4] 5
  simp only [pl, nth, drL] at h1
  have K := m_has (i := b) (k := a) (by omega) (by omega) (by omega) h1
  have hob : ∃ bq0 : Bool, ahF l b a = bq0 := ⟨_, rfl⟩
  obtain ⟨bq, hba⟩ := hob
  cases bq
  ·rw [hba] at K
   refine Cl.s K fun w H => ?_
   replace H := H.pi [1, 2, 3, 0, 4] 5
   simp only [pl, nth, drL] at H
   refine BB.no rfl (BB.yes rfl (ret1 (.bool true) rfl (by rfl) ?_))
   have hq : raceF l a b = (true) := by
    unfold raceF
    rw [hd, hdy, hab, hba]
    dsimp only
    rw [show (g != yg) = true from bne_iff_ne.2 (by omega)]
    rw [show (kind == 10) = true from beq_iff_eq.2 (by omega)]
    first | rfl | simp
   exact ⟨by rw [hq], H.pi [3, 4] 5⟩
  rw [hba] at K
  refine Cl.s K fun w H => ?_
  replace H := H.pi [1, 2, 3, 0, 4] 5
  simp only [pl, nth, drL] at H
  refine BB.yes rfl (BB.no rfl (ret1 (.bool false) rfl (by rfl) ?_))
  have hq : raceF l a b = (false) := by
   unfold raceF
   rw [hd, hdy, hab, hba]
   dsimp only
   rw [show (g != yg) = true from bne_iff_ne.2 (by omega)]
   rw [show (kind == 10) = true from beq_iff_eq.2 (by omega)]
   first | rfl | simp
  exact ⟨by rw [hq], H.pi [3, 4] 5⟩
 rw [hab] at K
 refine Cl.s K fun w H => ?_
 replace H := H.pi [1, 2, 3, 0, 4] 5
 simp only [pl, nth, drL] at H
 refine BB.yes rfl (BB.no rfl (ret1 (.bool false) rfl (by rfl) ?_))
 have hq : raceF l a b = (false) := by
  unfold raceF
  rw [hd, hdy, hab]
  dsimp only
  rw [show (g != yg) = true from bne_iff_ne.2 (by omega)]
  rw [show (kind == 10) = true from beq_iff_eq.2 (by omega)]
  first | rfl | simp
 exact ⟨by rw [hq], H.pi [3, 4] 5⟩
theorem x_first1 {w : World} {F : List Piece} {A : Piece} {lb lo lc : Nat} {l : List Ev} (hA : EvA A lb lo l) (hlc : l.length ≤ lc) {p i b7 b10 : Nat} (hi : i < l.length) (hll : l.length ≤ 1000) {k : Nat} (hk : k < l.length) (H : SL w (row b7 #[.slice (some ⟨lb, lo, none⟩) l.length lc, .pointer (some ⟨p, 0, none⟩)] 89 :: row b10 #[.int .i64 (i : Int)] 3 :: MatP p l.length (ahF l) :: A :: F)) : Calls Tryz.prog 52 #[.int .i64 (k : Int), .pointer (some ⟨b7, 0, none⟩), .pointer (some ⟨b10, 0, none⟩)] w fun o w' => o = .returned (.bool (raceF l k i)) ∧ SL w' (row b7 #[.slice (some ⟨lb, lo, none⟩) l.length lc, .pointer (some ⟨p, 0, none⟩)] 89 :: row b10 #[.int .i64 (i : Int)] 3 :: MatP p l.length (ahF l) :: A :: F) := by
 refine calls_d (args := [_, _, _]) Tryz.func52 rfl ?_
 refine ⟨⟨H.ldi 0 rfl (v := .slice (some ⟨lb, lo, none⟩) l.length lc) rfl ?_⟩⟩
 refine H.ldi 0 rfl (v := .pointer (some ⟨p, 0, none⟩)) rfl (H.ldi 1 rfl (v := .int .i64 ↑i) rfl ?_)
 have h1 := H.pi [2, 3, 0, 1] 4
 simp only [pl, nth, drL] at h1
 refine Cl.s (x_races (a := k) (b := i) hA hlc (by omega) hi hll h1) fun w H => ?_
 replace H := H.pi [2, 3, 0, 1] 4
 simp only [pl, nth, drL] at H
 refine BB.k (ret1 (.bool (raceF l k i)) rfl (by rfl) ?_)
 exact ⟨rfl, H⟩
theorem x_index {w : World} {F : List Piece} {A : Piece} {lb lo lc : Nat} {l : List Ev} (hA : EvA A lb lo l) (hlc : l.length ≤ lc) {p i b7 b10 : Nat} (hi : i < l.length) (hll : l.length ≤ 1000) {L : List Nat} {oa : Option Addr} {oc : Nat} (hL : ∀ k ∈ L, k < l.length) (hLn : L.length ≤ 1000) (H : SL w (Slc 3 1 (.slice oa L.length oc) L.length (nats L) :: row b7 #[.slice (some ⟨lb, lo, none⟩) l.length lc, .pointer (some ⟨p, 0, none⟩)] 89 :: row b10 #[.int .i64 (i : Int)] 3 :: MatP p l.length (ahF l) :: A :: F)) : Calls Tryz.prog 87 #[.slice oa L.length oc, .func (.func 52) #[] #[.pointer (some ⟨b7, 0, none⟩), .pointer (some ⟨b10, 0, none⟩)]] w fun o w' => ∃ t : Int, o = .returned (.int .i64 t) ∧ decide (t ≥ 0) = L.any (fun k => raceF l k i) ∧ SL w' (Slc 3 1 (.slice oa L.length oc) L.length (nats L) :: row b7 #[.slice (some ⟨lb, lo, none⟩) l.length lc, .pointer (some ⟨p, 0, none⟩)] 89 :: row b10 #[.int .i64 (i : Int)] 3 :: MatP p l.length (ahF l) :: A :: F) := by
 refine calls_d (args := [_, _]) Tryz.func87 rfl ?_
 refine ⟨⟨⟨den.loop (ι := Nat) [(4, 5), (8, 18)] (by kernel_rfl) (fun j => [(8, .int .i64 ↑j)]) (fun j w => (j ≤ L.length ∧ (L.take j).any (fun k => raceF l k i) = false) ∧ SL w (Slc 3 1 (.slice oa L.length oc) L.length (nats L) :: row b7 #[.slice (some ⟨lb, lo, none⟩) l.length lc, .pointer (some ⟨p, 0, none⟩)] 89 :: row b10 #[.int .i64 ↑i] 3 :: MatP p l.length (ahF l) :: A :: F)) (fun j => L.length - j) 0 ⟨rfl, trivial⟩ ⟨⟨Nat.zero_le _, rfl⟩, H⟩ ?_⟩⟩⟩
 rintro j s w ⟨hc, H⟩
 obtain ⟨hj0, hn⟩ := hc
 have hob := Nat.lt_or_ge j L.length
 rcases hob with hj | hj
 ·have hob : ∃ k, L[j]? = some k := ⟨_, get_of hj⟩
  obtain ⟨k, hk⟩ := hob
  have hob := SL.slcAddr H (by omega)
  obtain ⟨ob, rfl⟩ := hob
  refine ⟨BB.yd ?_⟩
  refine Cn.yes (⟨⟨⟨Ix.at0 j 1 (by kernel_rfl) (rfl) (hj) ?_⟩⟩⟩)
  refine H.ldS 0 rfl (v := .int .i64 ↑k) (nats_at hk) ?_
  have h1 := H.pi [1, 2, 3, 4, 0] 5
  simp only [pl, nth, drL] at h1
  have K := x_first1 hA hlc hi hll (hL k (List.mem_of_getElem? hk)) h1
  have hob : ∃ bq0 : Bool, raceF l k i = bq0 := ⟨_, rfl⟩
  obtain ⟨bq, hrc⟩ := hob
  cases bq
  ·rw [hrc] at K
   refine Cl.s K fun w H => ?_
   replace H := H.pi [4, 0, 1, 2, 3] 5
   simp only [pl, nth, drL] at H
   refine BB.no rfl (Cn.no (⟨IW.i j ?_⟩))
   exact ⟨j + 1, ⟨rfl, trivial⟩, ⟨⟨by omega, by rw [List.take_add_one, hk, Option.toList_some, List.any_append, hn, List.any_cons, hrc]; rfl⟩, H⟩, (show L.length - (j + 1) < L.length - j by omega)⟩
  rw [hrc] at K
  refine Cl.s K fun w H => ?_
  replace H := H.pi [4, 0, 1, 2, 3] 5
  simp only [pl, nth, drL] at H
  refine BB.yes rfl (Cn.yes (⟨ret1 (.int .i64 ↑j) rfl (by rfl) ?_⟩))
  have hany : L.any (fun k => raceF l k i) = true := List.any_eq_true.2 ⟨k, List.mem_of_getElem? hk, hrc⟩
  exact ⟨(j : Int), rfl, by rw [hany]; exact decide_eq_true (by omega), H⟩
 have hob : j = L.length := by omega
 obtain rfl := hob
 rw [List.take_length] at hn
 refine ⟨BB.nd ?_⟩
 refine Cn.no (⟨ret1 (.int .i64 (-1)) rfl (by rfl) ?_⟩)
 exact ⟨-1, rfl, by rw [hn]; rfl, H⟩
theorem x_contains {w : World} {F : List Piece} {A : Piece} {lb lo lc : Nat} {l : List Ev} (hA : EvA A lb lo l) (hlc : l.length ≤ lc) {p i b7 b10 : Nat} (hi : i < l.length) (hll : l.length ≤ 1000) {L : List Nat} {oa : Option Addr} {oc : Nat} (hL : ∀ k ∈ L, k < l.length) (hLn : L.length ≤ 1000) (H : SL w (Slc 3 1 (.slice oa L.length oc) L.length (nats L) :: row b7 #[.slice (some ⟨lb, lo, none⟩) l.length lc, .pointer (some ⟨p, 0, none⟩)] 89 :: row b10 #[.int .i64 (i : Int)] 3 :: MatP p l.length (ahF l) :: A :: F)) : Calls Tryz.prog 51 #[.slice oa L.length oc, .func (.func 52) #[] #[.pointer (some ⟨b7, 0, none⟩), .pointer (some ⟨b10, 0, none⟩)]] w fun o w' => o = .returned (.bool (L.any (fun k => raceF l k i))) ∧ SL w' (Slc 3 1 (.slice oa L.length oc) L.length (nats L) :: row b7 #[.slice (some ⟨lb, lo, none⟩) l.length lc, .pointer (some ⟨p, 0, none⟩)] 89 :: row b10 #[.int .i64 (i : Int)] 3 :: MatP p l.length (ahF l) :: A :: F) := by
 refine calls_d (args := [_, _]) Tryz.func51 rfl ?_
 refine ⟨⟨Cl.b (x_index hA hlc hi hll hL hLn H) ?_⟩⟩
 rintro _ w ⟨t, rfl, ht, H⟩
 refine ⟨_, rfl, ?_⟩
 refine BB.k (ret1 (.bool (decide (t ≥ 0))) rfl (by rfl) ?_)
 exact ⟨by rw [ht], H⟩
theorem colU_any {M : Nat → Nat → Bool} {k : Nat} {q : Nat → Bool} : ∀ {i : Nat}, (colU M k i).any q = (List.range i).any fun a => M a k && q a
 | 0 => rfl
 | i + 1 => by
  rw [colU, List.any_append, colU_any, List.range_succ, List.any_append, List.any_cons, List.any_nil, Bool.or_false]
  congr 1
  by_cases h : M i k = true
  ·rw [if_pos h, h]; simp
  ·rw [if_neg h]; simp [Bool.not_eq_true _ ▸ h]
theorem find_none {p : Nat → Bool} {i : Nat} (h : (List.range i).find? p = none) (h2 : p i = false) : (List.range (i + 1)).find? p = none := by
 rw [List.range_succ, List.find?_append, h, List.find?_cons, h2]
 rfl
theorem find_hit {p : Nat → Bool} {i m : Nat} (h : (List.range i).find? p = none) (h2 : p i = true) (h3 : i < m) : (List.range m).find? p = some i := by
 obtain ⟨d, rfl⟩ : ∃ d, m = (i + 1) + d := ⟨m - (i + 1), by omega⟩
 rw [List.range_add, List.find?_append, List.range_succ, List.find?_append, h, List.find?_cons, h2]
 rfl
theorem x_first_no {w : World} {F : List Piece} {A : Piece} {lb lo lc : Nat} {l : List Ev} (hA : EvA A lb lo l) (hlc : l.length ≤ lc) (hG : SpansA A) (h0 : 0 < l.length) (hll : l.length ≤ 60) {cell : Int} (hr : rightF l = false) (H : SL w (A :: F)) : Calls Tryz.prog 26 #[.slice (some ⟨lb, lo, none⟩) l.length lc, .int .i64 cell] w fun o w' => o = .returned (.tuple #[.int .i64 0, .bool false, .int .i64 4]) ∧ SL w' (A :: F) := by
 refine calls_d (args := [_, _]) Tryz.func26 rfl ?_
 refine ⟨⟨?_⟩⟩
 have h1 := H
 refine Cl.s (x_of_no hA hG h0 hll hr h1) fun w H => ?_
 refine Nw.as #[.slice none 0 0, .pointer none] 89 rfl H fun b7 w H => ?_
 refine H.st0 (cs' := #[.slice none 0 0, .pointer none]) rfl rfl rfl fun w H => ?_
 refine H.st0 (cs' := #[.slice none 0 0, .pointer none]) rfl rfl rfl fun w H => ?_
 refine ⟨⟨BB.yes rfl ?_⟩⟩
 refine Cn.yes (⟨ret3 (.int .i64 0) (.bool false) (.int .i64 4) rfl (by rfl) (by rfl) (by rfl) ?_⟩)
 exact ⟨rfl, H.pi [1] 2⟩
theorem x_first_out {w : World} {F : List Piece} {A : Piece} {lb lo lc : Nat} {l : List Ev} (hA : EvA A lb lo l) (hlc : l.length ≤ lc) (hG : SpansA A) (h0 : 0 < l.length) (hll : l.length ≤ 60) {cell : Int} (hcell : cell < 0 ∨ 8 ≤ cell) (hr : rightF l = true) (H : SL w (A :: F)) : Calls Tryz.prog 26 #[.slice (some ⟨lb, lo, none⟩) l.length lc, .int .i64 cell] w fun o w' => o = .returned (.tuple #[.int .i64 0, .bool false, .int .i64 1]) ∧ SL w' (A :: F) := by
 by_cases hc0 : cell < 0
 ·refine calls_d (args := [_, _]) Tryz.func26 rfl ?_
  refine ⟨⟨?_⟩⟩
  have h1 := H
  refine Cl.b (x_of hA hG h0 hll hr h1) ?_
  rintro _ w ⟨p, rfl, H⟩
  refine ⟨_, rfl, ?_⟩
  refine Nw.as #[.slice none 0 0, .pointer none] 89 rfl H fun b7 w H => ?_
  refine H.st0 (cs' := #[.slice (some ⟨lb, lo, none⟩) l.length lc, .pointer none]) rfl rfl rfl fun w H => ?_
  refine H.st0 (cs' := #[.slice (some ⟨lb, lo, none⟩) l.length lc, .pointer (some ⟨p, 0, none⟩)]) rfl rfl rfl fun w H => ?_
  refine ⟨⟨BB.no rfl ?_⟩⟩
  refine Cn.no (⟨BB.yd ?_⟩)
  refine Cn.yes (⟨ret3 (.int .i64 0) (.bool false) (.int .i64 1) rfl (by rfl) (by rfl) (by rfl) ?_⟩)
  exact ⟨rfl, H.pi [2] 3⟩
 refine calls_d (args := [_, _]) Tryz.func26 rfl ?_
 refine ⟨⟨?_⟩⟩
 have h1 := H
 refine Cl.b (x_of hA hG h0 hll hr h1) ?_
 rintro _ w ⟨p, rfl, H⟩
 refine ⟨_, rfl, ?_⟩
 refine Nw.as #[.slice none 0 0, .pointer none] 89 rfl H fun b7 w H => ?_
 refine H.st0 (cs' := #[.slice (some ⟨lb, lo, none⟩) l.length lc, .pointer none]) rfl rfl rfl fun w H => ?_
 refine H.st0 (cs' := #[.slice (some ⟨lb, lo, none⟩) l.length lc, .pointer (some ⟨p, 0, none⟩)]) rfl rfl rfl fun w H => ?_
 refine ⟨⟨BB.no rfl ?_⟩⟩
 refine Cn.no (⟨BB.nd ?_⟩)
 refine BB.yd (Cn.yes (⟨ret3 (.int .i64 0) (.bool false) (.int .i64 1) rfl (by rfl) (by rfl) (by rfl) ?_⟩))
 exact ⟨rfl, H.pi [2] 3⟩
set_option maxHeartbeats 1000000 in
theorem x_first {w : World} {F : List Piece} {A : Piece} {lb lo lc : Nat} {l : List Ev} (hA : EvA A lb lo l) (hlc : l.length ≤ lc) (hG : SpansA A) (h0 : 0 < l.length) (hll : l.length ≤ 60) {cell : Int} (hcell : ¬ (cell < 0 ∨ 8 ≤ cell)) (hr : rightF l = true) (H : SL w (A :: F)) : Calls Tryz.prog 26 #[.slice (some ⟨lb, lo, none⟩) l.length lc, .int .i64 cell] w fun o w' => o = .returned (.tuple #[.int .i64 (((frsF l cell).getD 0 : Nat) : Int), .bool (frsF l cell).isSome, .int .i64 0]) ∧ SL w' (A :: F) := by
 refine calls_d (args := [_, _]) Tryz.func26 rfl ?_
 refine ⟨⟨?_⟩⟩
 have h1 := H
 refine Cl.b (x_of hA hG h0 hll hr h1) ?_
 rintro _ w ⟨p, rfl, H⟩
 refine ⟨_, rfl, ?_⟩
 refine Nw.as #[.slice none 0 0, .pointer none] 89 rfl H fun b7 w H => ?_
 refine H.st0 (cs' := #[.slice (some ⟨lb, lo, none⟩) l.length lc, .pointer none]) rfl rfl rfl fun w H => ?_
 refine H.st0 (cs' := #[.slice (some ⟨lb, lo, none⟩) l.length lc, .pointer (some ⟨p, 0, none⟩)]) rfl rfl rfl fun w H => ?_
 refine ⟨⟨BB.no rfl ?_⟩⟩
 refine Cn.no (⟨BB.nd ?_⟩)
 refine BB.nd (Cn.no (⟨⟨⟨?_⟩⟩⟩))
 have q := SL.slcNil 3 1 (H.pi [1, 2, 0] 3)
 refine den.loop (ι := Nat × Value) [(4, 6), (9, 11), (30, 57)] (by kernel_rfl) (fun (i, bv) => [(9, bv), (30, .int .i64 ↑i)]) (fun (i, bv) w => (i ≤ l.length ∧ (List.range i).find? (hitF l cell) = none) ∧ SL w (Slc 3 1 bv (colU (fun a _ => accF l cell a) 0 i).length (nats (colU (fun a _ => accF l cell a) 0 i)) :: MatP p l.length (ahF l) :: A :: row b7 #[.slice (some ⟨lb, lo, none⟩) l.length lc, .pointer (some ⟨p, 0, none⟩)] 89 :: F)) (fun (i, bv) => l.length - i) (0, (.slice none 0 0)) ⟨rfl, rfl, trivial⟩ ⟨⟨Nat.zero_le _, rfl⟩, q⟩ ?_
 rintro ⟨i, bv⟩ s w ⟨hc, H⟩
 obtain ⟨hi0, hn⟩ := hc
 have hob := Nat.lt_or_ge i l.length
 rcases hob with hi | hi
 ·have hob := SL.slcForm H
  obtain ⟨oa, oc, rfl⟩ := hob
  have hcl := colU_len (M := fun a _ => accF l cell a) (k := 0) (i := i)
  have hob : ∃ x, l[i]? = some x := ⟨_, get_of hi⟩
  obtain ⟨⟨kind, g, chan, case_, value, mate, send, ok⟩, he⟩ := hob
  have hd : l.getD i evz = ⟨kind, g, chan, case_, value, mate, send, ok⟩ := by rw [List.getD_eq_getElem?_getD, he]; rfl
  refine ⟨BB.yd ?_⟩
  refine Cn.yes (⟨⟨Ix.at i 8 (by kernel_rfl) (rfl) (by omega) ?_⟩⟩)
  refine H.ldEv 2 rfl hA i he (Nw.as #[.int .i64 0] 3 rfl H fun b10 w H => ?_)
  refine Nw.as ev0C 53 rfl H fun b11 w H => ?_
  refine H.st1 (cs' := #[.int .i64 ↑i]) rfl rfl rfl fun w H => ?_
  refine SL.stEv H rfl rfl fun w H => ?_
  refine ⟨H.ldi 0 rfl (v := .int .i64 kind) rfl ?_⟩
  refine BB.vr fun q1 e1 => ?_
  cases q1
  ·have h1 := bne_eq_false_iff_eq.1 e1
   refine H.ldi 0 rfl (v := .int .i64 value) rfl (BB.vr fun q2 e2 => ?_)
   cases q2
   ·have h2 := bne_eq_false_iff_eq.1 e2
    refine Cn.no (⟨Mn.pure (.func (.func 52) #[] #[.pointer (some ⟨b7, 0, none⟩), .pointer (some ⟨b10, 0, none⟩)]) (by kernel_rfl) ?_⟩)
    have h1 := H.pi [2, 5, 1, 3, 4, 0] 6
    simp only [pl, nth, drL] at h1
    have hac : accF l cell i = true := by unfold accF; rw [hd]; simp only [Bool.and_eq_true, Bool.or_eq_true, beq_iff_eq]; omega
    have K := x_contains (p := p) (i := i) (L := (colU (fun a _ => accF l cell a) 0 i)) hA hlc hi (by omega) (fun k hk => by have := (colU_lt hk).1; omega) (by omega) h1
    have hob : ∃ bq0 : Bool, (colU (fun a _ => accF l cell a) 0 i).any (fun k => raceF l k i) = bq0 := ⟨_, rfl⟩
    obtain ⟨bq, hany⟩ := hob
    cases bq
    ·rw [hany] at K
     refine Cl.s K fun w H => ?_
     replace H := H.pi [5, 2, 0, 3, 4, 1] 6
     simp only [pl, nth, drL] at H
     refine BB.no rfl (Cn.no (⟨H.ldi 1 rfl (v := .int .i64 ↑i) rfl ?_⟩))
     refine Mn.new (fun b => .slice (some ⟨b, 0, none⟩) 1 1) #[.int .i64 ↑i] 3 (by kernel_rfl) H fun b55 w H => ?_
     refine SL.appS H.up3 (.tmp 53) (.tmp 55) 67 (.int .i64 0) 8 (by rfl) (by kernel_rfl) (by kernel_rfl) (by rfl) (by decide) (by rfl) (some ⟨b55, 0, none⟩) 1 1 [.int .i64 ↑i] (by rfl) (H.rdRow 0 rfl (by rfl) (by decide)) (by rfl) (by omega) (by decide) (by decide) fun g3 c3 w H => ?_
     refine ⟨IW.i i ?_⟩
     have hht : hitF l cell i = false := by unfold hitF; rw [hac, ← colU_any (M := fun a _ => accF l cell a) (k := 0) (q := fun a => raceF l a i), hany]; rfl
     have q : SL w (Slc 3 1 (.slice (some ⟨g3, 0, none⟩) ((colU (fun a _ => accF l cell a) 0 i).length + 1) c3) (colU (fun a _ => accF l cell a) 0 (i + 1)).length (nats (colU (fun a _ => accF l cell a) 0 (i + 1))) :: MatP p l.length (ahF l) :: A :: row b7 #[.slice (some ⟨lb, lo, none⟩) l.length lc, .pointer (some ⟨p, 0, none⟩)] 89 :: F) := by
      rw [colU, if_pos hac, nats_app, show ((colU (fun a _ => accF l cell a) 0 i) ++ [i]).length = (colU (fun a _ => accF l cell a) 0 i).length + 1 by rw [List.length_append]; rfl]
      exact H.pi [0, 4, 5, 6] 7
     exact ⟨(i + 1, (.slice (some ⟨g3, 0, none⟩) ((colU (fun a _ => accF l cell a) 0 i).length + 1) c3)), ⟨rfl, rfl, trivial⟩, ⟨⟨by omega, find_none hn hht⟩, q⟩, (show l.length - (i + 1) < l.length - i by omega)⟩
    rw [hany] at K
    refine Cl.s K fun w H => ?_
    replace H := H.pi [5, 2, 0, 3, 4, 1] 6
    simp only [pl, nth, drL] at H
    refine BB.yes rfl (Cn.yes (⟨H.ldi 1 rfl (v := .int .i64 ↑i) rfl ?_⟩))
    refine ret3 (.int .i64 ↑i) (.bool true) (.int .i64 0) rfl (by rfl) (by rfl) (by rfl) ?_
    have hht : hitF l cell i = true := by unfold hitF; rw [hac, ← colU_any (M := fun a _ => accF l cell a) (k := 0) (q := fun a => raceF l a i), hany]; rfl
    exact ⟨by rw [show frsF l cell = some i from find_hit hn hht hi]; rfl, H.pi [4] 6⟩
   have h2 := bne_iff_ne.1 e2
   refine Cn.yes (⟨IW.i i ?_⟩)
   have hac : accF l cell i = false := by unfold accF; rw [hd, Bool.eq_false_iff]; intro hh; simp only [Bool.and_eq_true, Bool.or_eq_true, beq_iff_eq] at hh; omega
   have hht : hitF l cell i = false := by unfold hitF; rw [hac]; rfl
   have q : SL w (Slc 3 1 (.slice oa ((colU (fun a _ => accF l cell a) 0 i).length) oc) (colU (fun a _ => accF l cell a) 0 (i + 1)).length (nats (colU (fun a _ => accF l cell a) 0 (i + 1))) :: MatP p l.length (ahF l) :: A :: row b7 #[.slice (some ⟨lb, lo, none⟩) l.length lc, .pointer (some ⟨p, 0, none⟩)] 89 :: F) := by
    rw [colU, if_neg (by rw [hac]; decide), List.append_nil]
    exact H.pi [2, 3, 4, 5] 6
   exact ⟨(i + 1, (.slice oa ((colU (fun a _ => accF l cell a) 0 i).length) oc)), ⟨rfl, rfl, trivial⟩, ⟨⟨by omega, find_none hn hht⟩, q⟩, (show l.length - (i + 1) < l.length - i by omega)⟩
  have h1 := bne_iff_ne.1 e1
  refine H.ldi 0 rfl (v := .int .i64 kind) rfl (BB.vr fun q4 e4 => ?_)
  cases q4
  ·have h4 := bne_eq_false_iff_eq.1 e4
   refine H.ldi 0 rfl (v := .int .i64 value) rfl (BB.vr fun q5 e5 => ?_)
   cases q5
   ·have h5 := bne_eq_false_iff_eq.1 e5
    refine Cn.no (⟨Mn.pure (.func (.func 52) #[] #[.pointer (some ⟨b7, 0, none⟩), .pointer (some ⟨b10, 0, none⟩)]) (by kernel_rfl) ?_⟩)
    have h1 := H.pi [2, 5, 1, 3, 4, 0] 6
    simp only [pl, nth, drL] at h1
    have hac : accF l cell i = true := by unfold accF; rw [hd]; simp only [Bool.and_eq_true, Bool.or_eq_true, beq_iff_eq]; omega
    have K := x_contains (p := p) (i := i) (L := (colU (fun a _ => accF l cell a) 0 i)) hA hlc hi (by omega) (fun k hk => by have := (colU_lt hk).1; omega) (by omega) h1
    have hob : ∃ bq0 : Bool, (colU (fun a _ => accF l cell a) 0 i).any (fun k => raceF l k i) = bq0 := ⟨_, rfl⟩
    obtain ⟨bq, hany⟩ := hob
    cases bq
    ·rw [hany] at K
     refine Cl.s K fun w H => ?_
     replace H := H.pi [5, 2, 0, 3, 4, 1] 6
     simp only [pl, nth, drL] at H
     refine BB.no rfl (Cn.no (⟨H.ldi 1 rfl (v := .int .i64 ↑i) rfl ?_⟩))
     refine Mn.new (fun b => .slice (some ⟨b, 0, none⟩) 1 1) #[.int .i64 ↑i] 3 (by kernel_rfl) H fun b55 w H => ?_
     refine SL.appS H.up3 (.tmp 53) (.tmp 55) 67 (.int .i64 0) 8 (by rfl) (by kernel_rfl) (by kernel_rfl) (by rfl) (by decide) (by rfl) (some ⟨b55, 0, none⟩) 1 1 [.int .i64 ↑i] (by rfl) (H.rdRow 0 rfl (by rfl) (by decide)) (by rfl) (by omega) (by decide) (by decide) fun g6 c6 w H => ?_
     refine ⟨IW.i i ?_⟩
     have hht : hitF l cell i = false := by unfold hitF; rw [hac, ← colU_any (M := fun a _ => accF l cell a) (k := 0) (q := fun a => raceF l a i), hany]; rfl
     have q : SL w (Slc 3 1 (.slice (some ⟨g6, 0, none⟩) ((colU (fun a _ => accF l cell a) 0 i).length + 1) c6) (colU (fun a _ => accF l cell a) 0 (i + 1)).length (nats (colU (fun a _ => accF l cell a) 0 (i + 1))) :: MatP p l.length (ahF l) :: A :: row b7 #[.slice (some ⟨lb, lo, none⟩) l.length lc, .pointer (some ⟨p, 0, none⟩)] 89 :: F) := by
      rw [colU, if_pos hac, nats_app, show ((colU (fun a _ => accF l cell a) 0 i) ++ [i]).length = (colU (fun a _ => accF l cell a) 0 i).length + 1 by rw [List.length_append]; rfl]
      exact H.pi [0, 4, 5, 6] 7
     exact ⟨(i + 1, (.slice (some ⟨g6, 0, none⟩) ((colU (fun a _ => accF l cell a) 0 i).length + 1) c6)), ⟨rfl, rfl, trivial⟩, ⟨⟨by omega, find_none hn hht⟩, q⟩, (show l.length - (i + 1) < l.length - i by omega)⟩
    rw [hany] at K
    refine Cl.s K fun w H => ?_
    replace H := H.pi [5, 2, 0, 3, 4, 1] 6
    simp only [pl, nth, drL] at H
    refine BB.yes rfl (Cn.yes (⟨H.ldi 1 rfl (v := .int .i64 ↑i) rfl ?_⟩))
    refine ret3 (.int .i64 ↑i) (.bool true) (.int .i64 0) rfl (by rfl) (by rfl) (by rfl) ?_
    have hht : hitF l cell i = true := by unfold hitF; rw [hac, ← colU_any (M := fun a _ => accF l cell a) (k := 0) (q := fun a => raceF l a i), hany]; rfl
    exact ⟨by rw [show frsF l cell = some i from find_hit hn hht hi]; rfl, H.pi [4] 6⟩
   have h5 := bne_iff_ne.1 e5
   refine Cn.yes (⟨IW.i i ?_⟩)
   have hac : accF l cell i = false := by unfold accF; rw [hd, Bool.eq_false_iff]; intro hh; simp only [Bool.and_eq_true, Bool.or_eq_true, beq_iff_eq] at hh; omega
   have hht : hitF l cell i = false := by unfold hitF; rw [hac]; rfl
   have q : SL w (Slc 3 1 (.slice oa ((colU (fun a _ => accF l cell a) 0 i).length) oc) (colU (fun a _ => accF l cell a) 0 (i + 1)).length (nats (colU (fun a _ => accF l cell a) 0 (i + 1))) :: MatP p l.length (ahF l) :: A :: row b7 #[.slice (some ⟨lb, lo, none⟩) l.length lc, .pointer (some ⟨p, 0, none⟩)] 89 :: F) := by
    rw [colU, if_neg (by rw [hac]; decide), List.append_nil]
    exact H.pi [2, 3, 4, 5] 6
   exact ⟨(i + 1, (.slice oa ((colU (fun a _ => accF l cell a) 0 i).length) oc)), ⟨rfl, rfl, trivial⟩, ⟨⟨by omega, find_none hn hht⟩, q⟩, (show l.length - (i + 1) < l.length - i by omega)⟩
  have h4 := bne_iff_ne.1 e4
  refine Cn.yes (⟨IW.i i ?_⟩)
  have hac : accF l cell i = false := by unfold accF; rw [hd, Bool.eq_false_iff]; intro hh; simp only [Bool.and_eq_true, Bool.or_eq_true, beq_iff_eq] at hh; omega
  have hht : hitF l cell i = false := by unfold hitF; rw [hac]; rfl
  have q : SL w (Slc 3 1 (.slice oa ((colU (fun a _ => accF l cell a) 0 i).length) oc) (colU (fun a _ => accF l cell a) 0 (i + 1)).length (nats (colU (fun a _ => accF l cell a) 0 (i + 1))) :: MatP p l.length (ahF l) :: A :: row b7 #[.slice (some ⟨lb, lo, none⟩) l.length lc, .pointer (some ⟨p, 0, none⟩)] 89 :: F) := by
   rw [colU, if_neg (by rw [hac]; decide), List.append_nil]
   exact H.pi [2, 3, 4, 5] 6
  exact ⟨(i + 1, (.slice oa ((colU (fun a _ => accF l cell a) 0 i).length) oc)), ⟨rfl, rfl, trivial⟩, ⟨⟨by omega, find_none hn hht⟩, q⟩, (show l.length - (i + 1) < l.length - i by omega)⟩
 have hob : i = l.length := by omega
 obtain rfl := hob
 have hob := SL.slcForm H
 obtain ⟨oa, oc, rfl⟩ := hob
 refine ⟨BB.nd ?_⟩
 refine Cn.no (⟨ret3 (.int .i64 0) (.bool false) (.int .i64 0) rfl (by rfl) (by rfl) (by rfl) ?_⟩)
 exact ⟨by rw [show frsF l cell = none from hn]; rfl, H.pi [2] 4⟩
theorem x_first_nil_out {w : World} {F : List Piece} {la : Option Addr} {lc : Nat} {cell : Int} (hcell : cell < 0 ∨ 8 ≤ cell) (H : SL w F) : Calls Tryz.prog 26 #[.slice la 0 lc, .int .i64 cell] w fun o w' => o = .returned (.tuple #[.int .i64 0, .bool false, .int .i64 1]) ∧ SL w' F := by
 by_cases hc0 : cell < 0
 ·refine calls_d (args := [_, _]) Tryz.func26 rfl ?_
  refine ⟨⟨Cl.b (x_of_nil H) ?_⟩⟩
  rintro _ w ⟨p, rfl, H⟩
  refine ⟨_, rfl, ?_⟩
  refine Nw.as #[.slice none 0 0, .pointer none] 89 rfl H fun b7 w H => ?_
  refine H.st0 (cs' := #[.slice la 0 lc, .pointer none]) rfl rfl rfl fun w H => ?_
  refine H.st0 (cs' := #[.slice la 0 lc, .pointer (some ⟨p, 0, none⟩)]) rfl rfl rfl fun w H => ?_
  refine ⟨⟨BB.no rfl ?_⟩⟩
  refine Cn.no (⟨BB.yd ?_⟩)
  refine Cn.yes (⟨ret3 (.int .i64 0) (.bool false) (.int .i64 1) rfl (by rfl) (by rfl) (by rfl) ?_⟩)
  exact ⟨rfl, H.pi [] 2⟩
 refine calls_d (args := [_, _]) Tryz.func26 rfl ?_
 refine ⟨⟨Cl.b (x_of_nil H) ?_⟩⟩
 rintro _ w ⟨p, rfl, H⟩
 refine ⟨_, rfl, ?_⟩
 refine Nw.as #[.slice none 0 0, .pointer none] 89 rfl H fun b7 w H => ?_
 refine H.st0 (cs' := #[.slice la 0 lc, .pointer none]) rfl rfl rfl fun w H => ?_
 refine H.st0 (cs' := #[.slice la 0 lc, .pointer (some ⟨p, 0, none⟩)]) rfl rfl rfl fun w H => ?_
 refine ⟨⟨BB.no rfl ?_⟩⟩
 refine Cn.no (⟨BB.nd ?_⟩)
 refine BB.yd (Cn.yes (⟨ret3 (.int .i64 0) (.bool false) (.int .i64 1) rfl (by rfl) (by rfl) (by rfl) ?_⟩))
 exact ⟨rfl, H.pi [] 2⟩
theorem x_first_nil {w : World} {F : List Piece} {la : Option Addr} {lc : Nat} {cell : Int} (hcell : ¬ (cell < 0 ∨ 8 ≤ cell)) (H : SL w F) : Calls Tryz.prog 26 #[.slice la 0 lc, .int .i64 cell] w fun o w' => o = .returned (.tuple #[.int .i64 0, .bool false, .int .i64 0]) ∧ SL w' F := by
 refine calls_d (args := [_, _]) Tryz.func26 rfl ?_
 refine ⟨⟨Cl.b (x_of_nil H) ?_⟩⟩
 rintro _ w ⟨p, rfl, H⟩
 refine ⟨_, rfl, ?_⟩
 refine Nw.as #[.slice none 0 0, .pointer none] 89 rfl H fun b7 w H => ?_
 refine H.st0 (cs' := #[.slice la 0 lc, .pointer none]) rfl rfl rfl fun w H => ?_
 refine H.st0 (cs' := #[.slice la 0 lc, .pointer (some ⟨p, 0, none⟩)]) rfl rfl rfl fun w H => ?_
 refine ⟨⟨BB.no rfl ?_⟩⟩
 refine Cn.no (⟨BB.nd ?_⟩)
 refine BB.nd (Cn.no (⟨⟨⟨?_⟩⟩⟩))
 have q := SL.slcNil 3 1 (H.pi [1, 0] 2)
 refine den.loop (ι := Nat × Value) [(4, 6), (9, 11), (30, 57)] (by kernel_rfl) (fun (i, bv) => [(9, bv), (30, .int .i64 ↑i)]) (fun (i, bv) w => i ≤ 0 ∧ SL w (Slc 3 1 bv 0 (nats []) :: MatP p 0 (cloR (fun _ _ => false) 0) :: row b7 #[.slice la 0 lc, .pointer (some ⟨p, 0, none⟩)] 89 :: F)) (fun (i, bv) => 0) (0, (.slice none 0 0)) ⟨rfl, rfl, trivial⟩ ⟨Nat.zero_le _, q⟩ ?_
 rintro ⟨i, bv⟩ s w ⟨hi0, H⟩
 have hob : i = 0 := by omega
 obtain rfl := hob
 have hob := SL.slcForm H
 obtain ⟨oa, oc, rfl⟩ := hob
 refine ⟨BB.no rfl ?_⟩
 refine Cn.no (⟨ret3 (.int .i64 0) (.bool false) (.int .i64 0) rfl (by rfl) (by rfl) (by rfl) ?_⟩)
 exact ⟨rfl, H.pi [] 3⟩
end Go.Proofs.YtoamjodmidbmbaaGreatDoor
namespace Go.Proofs.YtoamjodmidbmbaaGreatDoor
open Go.RowKit
def boolsA (n : Nat) (f : Nat → Bool) : Array Value := ((List.range n).map fun k => Value.bool (f k)).toArray
section
variable {n k : Nat} {f g : Nat → Bool} {v : Bool}
theorem boolsA_size : (boolsA n f).size = n := by simp [boolsA]
theorem boolsA_at (h : k < n) : (boolsA n f)[k * 1]? = some (.bool (f k)) := by
 unfold boolsA
 rw [Nat.mul_one, List.getElem?_toArray, List.getElem?_map, List.getElem?_range h]
 rfl
theorem boolsA_blt (h : k < n) : Nat.blt (k * 1) (boolsA n f).size = true := by
 rw [boolsA_size, Nat.mul_one, Nat.blt_eq]
 exact h
theorem boolsA_congr (h : ∀ k, k < n → f k = g k) : boolsA n f = boolsA n g := by
 unfold boolsA
 congr 1
 exact List.map_congr_left fun k hk => by rw [h k (List.mem_range.1 hk)]
theorem boolsA_set : (boolsA n f).setIfInBounds (k * 1) (.bool v) = boolsA n (fun x => if x = k then v else f x) := by
 apply Array.ext_getElem?
 intro i
 rw [Nat.mul_one, Array.getElem?_setIfInBounds]
 unfold boolsA
 simp only [List.getElem?_toArray, List.getElem?_map, List.size_toArray, List.length_map, List.length_range]
 by_cases e : k = i
 ·subst e
  rw [if_pos rfl]
  by_cases h : k < n
  ·rw [if_pos h, List.getElem?_range h, Option.map_some, if_pos rfl]
  ·rw [if_neg h, List.getElem?_eq_none (by rw [List.length_range]; omega)]
   rfl
 ·rw [if_neg e]
  rcases Nat.lt_or_ge i n with h | h
  ·rw [List.getElem?_range h, Option.map_some, Option.map_some, if_neg (fun q => e q.symm)]
  ·rw [List.getElem?_eq_none (by rw [List.length_range]; omega)]
   rfl
theorem made_bools : madeCells #[Value.bool false] (n * 1) = boolsA n (fun _ => false) := by
 have h := made_one (.bool false) n rfl
 apply Array.ext'
 rw [show (Value.bool false).cells = #[Value.bool false] from rfl] at h
 rw [h]
 unfold boolsA
 apply List.ext_getElem?
 intro i
 simp only [List.getElem?_replicate, List.getElem?_map]
 rcases Nat.lt_or_ge i n with h | h
 ·rw [if_pos h, List.getElem?_range h]; rfl
 ·rw [if_neg (by omega), List.getElem?_eq_none (by rw [List.length_range]; exact h)]; rfl
end
def RowsB (bs : List Nat) (n : Nat) (M : Nat → Nat → Bool) : Piece where
 on S w := bs.Nodup ∧ ∀ a b, bs[a]? = some b → S b ∧ w.heap[b]? = some (.cells (boolsA n (M a)) 4 (0, 0))
 move h s := ⟨h.1, fun a b hb => ⟨(h.2 a b hb).1, (s.block _ (h.2 a b hb).1).trans (h.2 a b hb).2⟩⟩
 mono h k := ⟨h.1, fun a b hb => ⟨k _ (h.2 a b hb).1, (h.2 a b hb).2⟩⟩
def tcells (n : Nat) (bs : List Nat) : List Value := bs.map fun b => .slice (some ⟨b, 0, none⟩) n n
theorem tcells_at {n a b : Nat} {bs : List Nat} (h : bs[a]? = some b) : (tcells n bs)[a * 1]? = some (.slice (some ⟨b, 0, none⟩) n n) := by
 unfold tcells
 rw [Nat.mul_one, List.getElem?_map, h]
 rfl
theorem tcells_snoc {n b : Nat} {bs : List Nat} : tcells n (bs ++ [b]) = tcells n bs ++ [.slice (some ⟨b, 0, none⟩) n n] := by
 unfold tcells
 rw [List.map_append]
 rfl
section
variable {w : World} {F L : List Piece} {bs : List Nat} {n a b k : Nat} {M R : Nat → Nat → Bool} {f : Nat → Bool}
theorem RowsB.nil (H : SL w F) : SL w (RowsB [] n M :: F) := ⟨fun _ => False, fun _ h => h.elim, ⟨List.nodup_nil, fun a b h => by simp at h⟩, H.mono (fun k hk => ⟨hk, id⟩)⟩
theorem RowsB.snoc (hf : f = M bs.length) (H : SL w (row b (boolsA n f) 4 :: RowsB bs n M :: F)) : SL w (RowsB (bs ++ [b]) n M :: F) := by
 subst hf
 obtain ⟨T, t1, t2, U, u1, u2, u3⟩ := H
 refine ⟨fun k => T k ∨ U k, fun k hk => hk.elim (t1 k) (fun h => (u1 k h).1), ⟨?_, ?_⟩, u3.mono (fun k hk => ⟨hk.1.1, fun h => h.elim hk.1.2 hk.2⟩)⟩
 ·rw [List.nodup_append]
  refine ⟨u2.1, by simp, fun x hx y hy => ?_⟩
  rw [List.mem_singleton] at hy
  subst hy
  obtain ⟨i, hi⟩ := List.getElem?_of_mem hx
  have := (u1 x (u2.2 i x hi).1).2
  exact fun e => this (by rw [e]; exact t2.1)
 ·intro x y hxy
  rcases Nat.lt_or_ge x bs.length with h | h
  ·rw [List.getElem?_append_left h] at hxy
   exact ⟨.inr (u2.2 x y hxy).1, (u2.2 x y hxy).2⟩
  ·rw [List.getElem?_append_right h] at hxy
   have hx0 : x - bs.length = 0 := by
    rcases Nat.eq_zero_or_pos (x - bs.length) with h0 | h0
    ·exact h0
    ·rw [List.getElem?_eq_none (by simp; omega)] at hxy
     cases hxy
   rw [hx0] at hxy
   injection hxy with hxy
   subst hxy
   rw [show x = bs.length by omega]
   exact ⟨.inl t2.1, t2.2⟩
theorem RowsB.same (he : ∀ a b, a < bs.length → b < n → M a b = R a b) (H : SL w (RowsB bs n M :: F)) : SL w (RowsB bs n R :: F) :=
 H.conv fun S _ h => ⟨h.1, fun a b hb => ⟨(h.2 a b hb).1, by
  rw [← boolsA_congr (fun k hk => he a k (List.getElem?_eq_some_iff.1 hb).1 hk)]
  exact (h.2 a b hb).2⟩⟩
theorem SL.ldRB {K : Value → Prop} (H : SL w L) (i : Nat) (hi : L[i]? = some (RowsB bs n M)) (hb : bs[a]? = some b) (hk : k < n) (q : K (.bool (M a k))) : Ld w ⟨b, k * 1, none⟩ K := by
 obtain ⟨T, _, h⟩ := SLs.at i H hi
 exact Ld.by (row_cell (h.2 a b hb).2 (k * 1) (boolsA_at hk)) q
theorem SL.stRB {K : World → Prop} {v : Bool} (H : SL w (RowsB bs n M :: F)) (hb : bs[a]? = some b) (hk : k < n) (q : ∀ w', SL w' (RowsB bs n (fun x y => if x = a ∧ y = k then v else M x y) :: F) → K w') : St w ⟨b, k * 1, none⟩ (.bool v) K := by
 obtain ⟨S, hR, h1, h2⟩ := H.call
 obtain ⟨hn, hr⟩ := hR
 have hab := hr a b hb
 refine ⟨⟨⟨.bool (M a k), row_cell hab.2 (k * 1) (boolsA_at hk)⟩, row_free hab.2 (k * 1), rfl, q _ (h2 _ [RowsB bs n (fun x y => if x = a ∧ y = k then v else M x y)] ((Frm.refl S w).setCell (p := ⟨b, k * 1, none⟩) (fun _ => hab.1) (.bool v)) ⟨_, fun _ h => h, ⟨hn, fun x y hxy => ?_⟩, trivial⟩)⟩⟩
 by_cases e : x = a
 ·subst e
  rw [hb] at hxy
  injection hxy with hxy
  subst hxy
  refine ⟨.inl hab.1, ?_⟩
  have h3 := blk_set hab.2 (k * 1) (.bool v)
  rw [boolsA_set] at h3
  rw [h3]
  congr 3
  funext y
  simp only [true_and]
 ·have hne : y ≠ b := by
   intro e2
   subst e2
   obtain ⟨hx1, hx2⟩ := List.getElem?_eq_some_iff.1 hxy
   obtain ⟨hb1, hb2⟩ := List.getElem?_eq_some_iff.1 hb
   have key := fun (i j : Nat) (hi : i < bs.length) (hj : j < bs.length) (hij : i < j) => List.pairwise_iff_getElem.1 hn i j hi hj hij
   rcases Nat.lt_trichotomy x a with h3 | h3 | h3
   ·exact key x a hx1 hb1 h3 (hx2.trans hb2.symm)
   ·exact e h3
   ·exact key a x hb1 hx1 h3 (hb2.trans hx2.symm)
  refine ⟨.inl (hr x y hxy).1, ?_⟩
  rw [blk_far (hr x y hxy).2 (p := ⟨b, k * 1, none⟩) hne]
  congr 3
  funext z
  show M x z = if x = a ∧ z = k then v else M x z
  rw [if_neg (fun q => e q.1)]
end
def RMP (p n : Nat) (M : Nat → Nat → Bool) : Piece := exP fun (x : Value × List Nat) => andP (x.2.length = n) (all [row p #[x.1] 104, Slc 101 1 x.1 n (tcells n x.2), RowsB x.2 n M])
theorem RMP.iff {w : World} {F : List Piece} {p n : Nat} {M : Nat → Nat → Bool} : SL w (RMP p n M :: F) ↔ ∃ tv bs, bs.length = n ∧ SL w (row p #[tv] 104 :: Slc 101 1 tv n (tcells n bs) :: RowsB bs n M :: F) := by
 unfold RMP
 constructor
 ·intro h
  obtain ⟨⟨tv, bs⟩, h⟩ := SL.exP.1 h
  obtain ⟨h1, h⟩ := SL.andP.1 h
  exact ⟨tv, bs, h1, SL.all.1 h⟩
 ·rintro ⟨tv, bs, h1, h⟩
  exact SL.exP.2 ⟨(tv, bs), SL.andP.2 ⟨h1, SL.all.2 h⟩⟩
section
variable {P : Program} {w : World} {L : List Piece} {σ : Fr} {op : Oper} {K : Value → World → Prop}
theorem Mn.makeR {te sz bytes : Nat} (H : SL w L) (l c : Operand) (t n : Nat) (hop : op.op = .makeSlice t l c) (ht : P.underlying t = some (.slice te)) (z : Value) (hinfo : (P.info? te).map (fun i => (i.zero, i.size, i.bytes)) = some (some z, sz, bytes)) (hl : ev σ l = .int .i64 (n : Int)) (hc : ev σ c = .int .i64 (n : Int)) (hn : n ≤ 10000000) (hb : bytes ≤ 1000)
  (k : ∀ b w', SL w' (row b (madeCells z.cells (n * sz)) te :: L) → K (.slice (some ⟨b, 0, none⟩) n n) w') : Mn P σ op w K := by
 obtain ⟨i0, hi, hzz⟩ := Option.map_eq_some_iff.1 hinfo
 simp only [Prod.mk.injEq] at hzz
 obtain ⟨hz0, hz1, hz2⟩ := hzz
 have hbb : i0.bytes * n ≤ 281474976710656 := by rw [hz2]; have := Nat.mul_le_mul hb hn; omega
 have hbi : (i0.bytes : Int) * (n : Int) ≤ 281474976710656 := by
  have h : ((i0.bytes * n : Nat) : Int) ≤ 281474976710656 := by omega
  rwa [Int.natCast_mul] at h
 have hrun := run_make (P := P) w t te i0 z ht hi hz0 .i64 .i64 (n : Int) (n : Int) (by omega) (Int.le_refl _) hbi (by omega)
 simp only [Int.toNat_natCast, hz1] at hrun
 have hrun' : (execOp (ev σ) op).run P w = .ok (.value (.slice (some ⟨w.heap.size, 0, none⟩) n n)) (w.alloc (.cells (madeCells z.cells (n * sz)) te)) := by
  simp only [execOp, hop, hl, hc, Sem.run_bind, hrun]
  rfl
 exact Mn.by hrun' (k w.heap.size _ (H.alloc _))
end
end Go.Proofs.YtoamjodmidbmbaaGreatDoor
