/- Texts of the proof. -/
import Derived.Test.YtoamjodmidbmbaaGreatDoorX17
import Derived.Test.YtoamjodmidbmbaaGreatDoorX14
import Derived.Test.YtoamjodmidbmbaaGreatDoorX18
import Derived.Test.YtoamjodmidbmbaaGreatDoorX10
import Derived.Lib.SliceRun
import Derived.Test.YtoamjodmidbmbaaGreatDoorX09
set_option linter.unusedVariables false
set_option linter.unusedSimpArgs false
namespace Go.Proofs.YtoamjodmidbmbaaGreatDoor
open Go.RowKit
set_option maxRecDepth 100000
theorem f_right {w : World} {F : List Piece} {A : Piece} {lb lo lc : Nat} {l : List Ev} (hA : EvA A lb lo l) (hlc : l.length ≤ lc) (h0 : 0 < l.length) (hll : l.length ≤ 2000) (H : SL w (A :: F)) : Calls Tryz.prog 14 #[.slice (some ⟨lb, lo, none⟩) l.length lc] w fun o w' => o = .returned (.bool (rightF l)) ∧ SL w' (A :: F) := by
 refine calls_d (args := [_]) Tryz.func14 rfl ?_
 refine ⟨⟨?_⟩⟩
 have K := r_check14 hA hlc h0 hll H
 rw [← check_same] at K
 refine Cl.s K fun w H => ?_
 refine Nw.as #[.int .i64 0, .int .i64 0] 83 rfl H fun b3 w H => ?_
 refine H.st0 (cs' := #[.int .i64 ((checkG l).1), .int .i64 0]) rfl rfl rfl fun w H => ?_
 refine H.st0 (cs' := #[.int .i64 ((checkG l).1), .int .i64 (↑(checkG l).2)]) rfl rfl rfl fun w H => ?_
 refine ⟨H.ldi 0 rfl (v := .int .i64 ((checkG l).1)) rfl ?_⟩
 refine BB.vr fun q1 e1 => ?_
 cases q1
 ·have h1 := neq_of e1
  refine H.ldi 0 rfl (v := .int .i64 ((checkG l).1)) rfl (BB.vr fun q2 e2 => ?_)
  cases q2
  ·have h2 := neq_of e2
   refine ret1 (.bool false) rfl (by rfl) ?_
   have hq : rightF l = false := by
    unfold rightF
    rw [beq_eq_false_iff_ne.2 h1, beq_eq_false_iff_ne.2 h2]
    first | done | rfl
   rw [hq]
   exact ⟨rfl, H.pi [1] 2⟩
  have h2 := eq_of_beq e2
  refine H.ldi 0 rfl (v := .int .i64 (↑(checkG l).2)) rfl (BB.vr fun q3 e3 => ?_)
  refine ret1 (.bool q3) rfl (by rfl) ?_
  have hq : rightF l = q3 := by
   unfold rightF
   rw [beq_eq_false_iff_ne.2 h1, beq_iff_eq.2 h2]
   rw [← e3]
   show ((checkG l).2 == l.length) = _
   exact Bool.eq_iff_iff.2 (by rw [beq_iff_eq, beq_iff_eq]; omega)
  rw [hq]
  exact ⟨rfl, H.pi [1] 2⟩
 have h1 := eq_of_beq e1
 refine ret1 (.bool true) rfl (by rfl) ?_
 have hq : rightF l = true := by
  unfold rightF
  rw [beq_iff_eq.2 h1]
  first | done | rfl
 rw [hq]
 exact ⟨rfl, H.pi [1] 2⟩
section
variable {l : List Ev} {g c : Int} {d j i f k t r : Nat} {e : Ev} {s : Bool}
theorem down (i : Nat) : (i : Int) - 1 = -1 ∨ ∃ j : Nat, (i : Int) - 1 = j ∧ j < i := by
 rcases Nat.eq_zero_or_pos i with rfl | h
 ·exact .inl rfl
 ·exact .inr ⟨i - 1, by omega, by omega⟩
theorem begK_yes (hd : l.getD j evz = e) (h : e.kind = 6 ∧ e.g = g) : begK l g d (j + 1) = j := by
 rw [begK, hd, if_pos h]
theorem begK_no (hd : l.getD j evz = e) (h : ¬ (e.kind = 6 ∧ e.g = g)) : begK l g d (j + 1) = begK l g d j := by
 rw [begK, hd, if_neg h]
def szI (c : Int) : List Ev → Int
 | [] => 0
 | e :: r => if e.kind = 2 ∧ e.chan = c then e.value else szI c r
theorem szI_step (he : l[i]? = some e) : szI c (l.drop i) = if e.kind = 2 ∧ e.chan = c then e.value else szI c (l.drop (i + 1)) := by
 obtain ⟨hi, rfl⟩ := List.getElem?_eq_some_iff.1 he
 rw [List.drop_eq_getElem_cons hi, szI]
theorem szI_is (h : ∀ e ∈ l, e.kind = 2 → 0 ≤ e.value) : szI c l = (sizeF l c : Int) := by
 unfold sizeF
 induction l with
 | nil => rfl
 | cons e r ih =>
  rw [szI, List.find?_cons]
  by_cases hk : e.kind = 2 ∧ e.chan = c
  ·rw [if_pos hk, show (e.kind == 2 && e.chan == c) = true by simp [hk.1, hk.2]]
   have := h e List.mem_cons_self hk.1
   dsimp only
   omega
  ·rw [if_neg hk, show (e.kind == 2 && e.chan == c) = false by rw [Bool.eq_false_iff]; intro hh; simp at hh; exact hk hh]
   exact ih fun e he => h e (List.mem_cons_of_mem _ he)
theorem szI_rt (h : RtL l) : szI c l = (sizeF l c : Int) := szI_is fun e he hk => by
 obtain ⟨i, hi, rfl⟩ := List.getElem_of_mem he
 have hd : l.getD i evz = l[i] := by rw [List.getD_eq_getElem?_getD, List.getElem?_eq_getElem hi]; rfl
 have hrt := (h.parts hi).1
 rw [hd] at hrt
 have := hrt.v2 hk
 omega
def nats (L : List Nat) : List Value := L.map (fun (n : Nat) => Value.int .i64 (n : Int))
theorem nats_at {L : List Nat} {d : Nat} (h : L[k]? = some d) : (nats L)[k * 1]? = some (.int .i64 (d : Int)) := by
 unfold nats
 rw [Nat.mul_one, List.getElem?_map, h]
 rfl
theorem nats_app {L : List Nat} {d : Nat} : nats (L ++ [d]) = nats L ++ [.int .i64 (d : Int)] := by
 unfold nats
 rw [List.map_append]
 rfl
theorem nats_app1 {L : List Nat} {i : Nat} : nats (L ++ [i + 1]) = nats L ++ [.int .i64 ((i : Int) + 1)] := nats_app
theorem done_lt : ∀ {i}, i ≤ l.length → ∀ d ∈ doneU l c s i, d < l.length
 | 0, _, d, h => by cases h
 | i + 1, hi, d, h => by
  rw [doneU, List.mem_append] at h
  rcases h with h | h
  ·exact done_lt (by omega) d h
  ·unfold doneO at h
   split at h
   ·cases h
   ·split at h
    ·rw [List.mem_singleton] at h
     omega
    ·split at h
     ·rw [List.mem_singleton] at h
      omega
     ·cases h
theorem done_len_le : ∀ {i}, (doneU l c s i).length ≤ i
 | 0 => Nat.le_refl _
 | i + 1 => by
  rw [doneU, List.length_append]
  have h1 : (doneO l c s i).length ≤ 1 := by
   unfold doneO
   split
   ·exact Nat.zero_le _
   ·split
    ·exact Nat.le_refl _
    ·split
     ·exact Nat.le_refl _
     ·exact Nat.zero_le _
  have := done_len_le (i := i)
  omega
end
theorem f_begins {w : World} {F : List Piece} {A : Piece} {lb lo lc : Nat} {l : List Ev} (hA : EvA A lb lo l) {i : Nat} (hi : i < l.length) (hll : l.length ≤ 2000) (H : SL w (A :: F)) : Calls Tryz.prog 19 #[.slice (some ⟨lb, lo, none⟩) l.length lc, .int .i64 (i : Int)] w fun o w' => o = .returned (.int .i64 (begF l i : Int)) ∧ SL w' (A :: F) := by
 obtain ⟨⟨kind, g, chan, case_, value, mate, send, ok⟩, he⟩ : ∃ x, l[i]? = some x := ⟨_, get_of hi⟩
 have hd : l.getD i evz = ⟨kind, g, chan, case_, value, mate, send, ok⟩ := by rw [List.getD_eq_getElem?_getD, he]; rfl
 refine calls_d (args := [_, _]) Tryz.func19 rfl ?_
 refine ⟨⟨Ix.at i 8 (by kernel_rfl) (rfl) (by omega) ?_⟩⟩
 refine H.ldE 0 rfl hA i 0 he (v := .int .i64 kind) rfl (BB.vr fun q1 e1 => ?_)
 cases q1
 ·have h1 := bne_eq_false_iff_eq.1 e1
  refine Cn.no (⟨IW.z ((i : Int) - 1) ?_⟩)
  refine ⟨den.loop (ι := Int) [(4, 5), (15, 38)] (by kernel_rfl) (fun k => [(5, .int .i64 k)]) (fun k w => ((k = -1 ∨ ∃ j : Nat, k = j ∧ j < i) ∧ begK l g i (k + 1).toNat = begK l g i i) ∧ SL w (A :: F)) (fun k => (k + 1).toNat) (↑i - 1) ⟨rfl, trivial⟩ ⟨⟨down i, by rw [show ((i : Int) - 1 + 1).toNat = i by omega]⟩, (H)⟩ ?_⟩
  rintro k s w ⟨hc, H⟩
  obtain ⟨hk, hK⟩ := hc
  rcases hk with rfl | ⟨j, rfl, hj⟩
  ·refine ⟨BB.no rfl ?_⟩
   refine Cn.no (⟨ret1 (.int .i64 ↑i) rfl (by rfl) ?_⟩)
   have hb : begF l i = begK l g i i := by
    unfold begF
    rw [hd, if_neg (by dsimp only; omega)]
   exact ⟨by rw [hb, ← hK]; rfl, H⟩
  have hob : ∃ x, l[j]? = some x := ⟨_, get_of (by omega)⟩
  obtain ⟨⟨ykind, yg, ychan, ycase_, yvalue, ymate, ysend, yok⟩, hy⟩ := hob
  have hdy : l.getD j evz = ⟨ykind, yg, ychan, ycase_, yvalue, ymate, ysend, yok⟩ := by rw [List.getD_eq_getElem?_getD, hy]; rfl
  refine ⟨BB.yd ?_⟩
  refine Cn.yes (⟨⟨Drw.of [(0, true), (1, true), (2, true), (3, true), (4, true), (5, true), (6, true), (7, true), (8, true), (9, true), (10, true), (11, true), (12, true), (13, true), (14, true), (15, true), (16, true), (17, true), (18, true)] (by kernel_rfl) mixed (fun w => SL w _) H.drew ?_⟩⟩)
  replace H := H.drew
  refine Ix.at j 8 (by kernel_rfl) (rfl) (by omega) ?_
  refine LdC.E 0 rfl hA j 0 hy (v := .int .i64 ykind) rfl (BB.vr fun q2 e2 => ?_)
  cases q2
  ·have h2 := neq_of e2
   refine Cn.no (⟨IW.z ((j : Int) - 1) ?_⟩)
   exact ⟨(↑j - 1), ⟨rfl, trivial⟩, ⟨⟨(down j).imp id (fun ⟨x, h1, h2⟩ => ⟨x, h1, by omega⟩), by rw [show ((j : Int) - 1 + 1).toNat = j by omega, ← hK, show ((j : Int) + 1).toNat = j + 1 by omega]; exact (begK_no hdy (by dsimp only; omega)).symm⟩, H⟩, (show ((j : Int) - 1 + 1).toNat < ((j : Int) + 1).toNat by omega)⟩
  have h2 := eq_of_beq e2
  refine Ix.at j 8 (by kernel_rfl) (rfl) (by omega) ?_
  refine LdC.E 0 rfl hA j 1 hy (v := .int .i64 yg) rfl (Ix.at i 8 (by kernel_rfl) (rfl) (by omega) ?_)
  refine LdC.E 0 rfl hA i 1 he (v := .int .i64 g) rfl (BB.vr fun q3 e3 => ?_)
  cases q3
  ·have h3 := neq_of e3
   refine Cn.no (⟨IW.z ((j : Int) - 1) ?_⟩)
   exact ⟨(↑j - 1), ⟨rfl, trivial⟩, ⟨⟨(down j).imp id (fun ⟨x, h1, h2⟩ => ⟨x, h1, by omega⟩), by rw [show ((j : Int) - 1 + 1).toNat = j by omega, ← hK, show ((j : Int) + 1).toNat = j + 1 by omega]; exact (begK_no hdy (by dsimp only; omega)).symm⟩, H⟩, (show ((j : Int) - 1 + 1).toNat < ((j : Int) + 1).toNat by omega)⟩
  have h3 := eq_of_beq e3
  refine Cn.yes (⟨ret1 (.int .i64 ↑j) rfl (by rfl) ?_⟩)
  have hb : begF l i = begK l g i i := by
   unfold begF
   rw [hd, if_neg (by dsimp only; omega)]
  rw [show ((j : Int) + 1).toNat = j + 1 by omega, begK_yes hdy ⟨by dsimp only; omega, by dsimp only; omega⟩] at hK
  exact ⟨by rw [hb, ← hK], H⟩
 have h1 := bne_iff_ne.1 e1
 refine Cn.yes (⟨ret1 (.int .i64 ↑i) rfl (by rfl) ?_⟩)
 exact ⟨by rw [show begF l i = i from if_pos (by rw [hd]; dsimp only; omega)], H⟩
theorem f_size {w : World} {F : List Piece} {A : Piece} {lb lo lc : Nat} {l : List Ev} (hA : EvA A lb lo l) {c : Int} (hll : l.length ≤ 2000) (H : SL w (A :: F)) : Calls Tryz.prog 127 #[.slice (some ⟨lb, lo, none⟩) l.length lc, .int .i64 c] w fun o w' => o = .returned (.int .i64 (szI c l)) ∧ SL w' (A :: F) := by
 refine calls_d (args := [_, _]) Tryz.func127 rfl ?_
 refine ⟨⟨⟨den.loop (ι := Nat) [(4, 4), (6, 6), (9, 24)] (by kernel_rfl) (fun i => [(9, .int .i64 ↑i)]) (fun i w => (i ≤ l.length ∧ szI c (l.drop i) = szI c l) ∧ SL w (A :: F)) (fun i => l.length - i) 0 ⟨rfl, trivial⟩ ⟨⟨Nat.zero_le _, rfl⟩, (H)⟩ ?_⟩⟩⟩
 rintro i s w ⟨hc, H⟩
 obtain ⟨hi0, hI⟩ := hc
 have hob := Nat.lt_or_ge i l.length
 rcases hob with hi | hi
 ·have hob : ∃ x, l[i]? = some x := ⟨_, get_of hi⟩
  obtain ⟨⟨kind, g, chan, case_, value, mate, send, ok⟩, he⟩ := hob
  have hd : l.getD i evz = ⟨kind, g, chan, case_, value, mate, send, ok⟩ := by rw [List.getD_eq_getElem?_getD, he]; rfl
  have hs := szI_step (c := c) he
  dsimp only at hs
  refine ⟨BB.yd ?_⟩
  refine Cn.yes (⟨⟨Ix.at i 8 (by kernel_rfl) (rfl) (hi) ?_⟩⟩)
  refine H.ldEv 0 rfl hA i he (Nw.as ev0C 53 rfl H fun b6 w H => ?_)
  refine SL.stEv H rfl rfl fun w H => ?_
  refine ⟨H.ldi 0 rfl (v := .int .i64 kind) rfl ?_⟩
  refine BB.vr fun q1 e1 => ?_
  cases q1
  ·have h1 := neq_of e1
   refine Cn.no (⟨IW.i i ?_⟩)
   exact ⟨i + 1, ⟨rfl, trivial⟩, ⟨⟨by omega, by rw [← hI, hs, if_neg (by omega)]⟩, H.pi [1] 2⟩, (show l.length - (i + 1) < l.length - i by omega)⟩
  have h1 := eq_of_beq e1
  refine H.ldi 0 rfl (v := .int .i64 chan) rfl (BB.vr fun q2 e2 => ?_)
  cases q2
  ·have h2 := neq_of e2
   refine Cn.no (⟨IW.i i ?_⟩)
   exact ⟨i + 1, ⟨rfl, trivial⟩, ⟨⟨by omega, by rw [← hI, hs, if_neg (by omega)]⟩, H.pi [1] 2⟩, (show l.length - (i + 1) < l.length - i by omega)⟩
  have h2 := eq_of_beq e2
  refine Cn.yes (⟨H.ldi 0 rfl (v := .int .i64 value) rfl ?_⟩)
  refine ret1 (.int .i64 value) rfl (by rfl) ?_
  exact ⟨by rw [← hI, hs, if_pos (by omega)], H.pi [1] 2⟩
 have hob : i = l.length := by omega
 obtain rfl := hob
 refine ⟨BB.nd ?_⟩
 refine Cn.no (⟨ret1 (.int .i64 0) rfl (by rfl) ?_⟩)
 exact ⟨by rw [← hI, List.drop_of_length_le (Nat.le_refl _)]; rfl, H⟩
theorem done_f {l : List Ev} {c : Int} {s : Bool} {i : Nat} {kind g chan case_ value mate : Int} {send : Bool} (hd : l.getD i evz = ⟨kind, g, chan, case_, value, mate, send, false⟩) : doneU l c s (i + 1) = doneU l c s i ++ (if chan ≠ c ∨ kind ≠ 3 then [] else if send = s then [i] else if 0 ≤ mate ∧ i + 1 < l.length then [i + 1] else []) := by
 rw [doneU, doneO, hd]
 simp only [or_true, and_true]
theorem done_t {l : List Ev} {c : Int} {s : Bool} {i : Nat} {kind g chan case_ value mate : Int} {send : Bool} (hd : l.getD i evz = ⟨kind, g, chan, case_, value, mate, send, true⟩) : doneU l c s (i + 1) = doneU l c s i ++ (if chan ≠ c ∨ kind ≠ 3 ∧ kind ≠ 4 then [] else if send = s then [i] else if 0 ≤ mate ∧ i + 1 < l.length then [i + 1] else []) := by
 rw [doneU, doneO, hd]
 simp only [reduceCtorEq, or_false]
set_option maxHeartbeats 4000000 in
theorem f_done {w : World} {F : List Piece} {A : Piece} {lb lo lc : Nat} {l : List Ev} (hA : EvA A lb lo l) {c : Int} {sd : Bool} (hll : l.length ≤ 2000) (H : SL w (A :: F)) : Calls Tryz.prog 97 #[.slice (some ⟨lb, lo, none⟩) l.length lc, .int .i64 c, .bool sd] w fun o w' => ∃ da dc, o = .returned (.slice da (doneF l c sd).length dc) ∧ SL w' (Slc 3 1 (.slice da (doneF l c sd).length dc) (doneF l c sd).length (nats (doneF l c sd)) :: A :: F) := by
 refine calls_d (args := [_, _, _]) Tryz.func97 rfl ?_
 refine ⟨⟨⟨⟨?_⟩⟩⟩⟩
 have q := SL.slcNil 3 1 (H)
 refine den.loop (ι := Nat × Value) [(7, 9), (12, 59)] (by kernel_rfl) (fun (i, dv) => [(7, dv), (12, .int .i64 ↑i)]) (fun (i, dv) w => i ≤ l.length ∧ SL w (Slc 3 1 dv (doneU l c sd i).length (nats (doneU l c sd i)) :: A :: F)) (fun (i, dv) => l.length - i) (0, (.slice none 0 0)) ⟨rfl, rfl, trivial⟩ ⟨Nat.zero_le _, q⟩ ?_
 rintro ⟨i, dv⟩ s w ⟨hi0, H⟩
 have hob := SL.slcForm H
 obtain ⟨da, dc, rfl⟩ := hob
 have hob := Nat.lt_or_ge i l.length
 rcases hob with hi | hi
 ·have hob : ∃ x, l[i]? = some x := ⟨_, get_of hi⟩
  obtain ⟨⟨kind, g, chan, case_, value, mate, send, ok⟩, he⟩ := hob
  have hd : l.getD i evz = ⟨kind, g, chan, case_, value, mate, send, ok⟩ := by rw [List.getD_eq_getElem?_getD, he]; rfl
  have hln : (doneU l c sd i).length ≤ i := done_len_le
  cases ok
  ·have hs := done_f (s := sd) (c := c) hd
   refine ⟨BB.yd ?_⟩
   refine Cn.yes (⟨⟨Ix.at i 8 (by kernel_rfl) (rfl) (hi) ?_⟩⟩)
   refine H.ldEv 1 rfl hA i he (Nw.as ev0C 53 rfl H fun b9 w H => ?_)
   refine SL.stEv H rfl rfl fun w H => ?_
   refine ⟨H.ldi 0 rfl (v := .int .i64 chan) rfl ?_⟩
   refine BB.vr fun q1 e1 => ?_
   cases q1
   ·have h1 := bne_eq_false_iff_eq.1 e1
    refine H.ldi 0 rfl (v := .int .i64 kind) rfl (BB.vr fun q2 e2 => ?_)
    cases q2
    ·have h2 := bne_eq_false_iff_eq.1 e2
     refine Cn.no (⟨H.ldi 0 rfl (v := .bool send) rfl ?_⟩)
     refine BB.k (BB.vr fun qs es => ?_)
     cases qs
     ·refine Cn.no (⟨H.ldi 0 rfl (v := .int .i64 mate) rfl ?_⟩)
      refine BB.vr fun q3 e3 => ?_
      cases q3
      ·have h3 := of_decide_eq_false e3
       refine Cn.no (⟨IW.i i ?_⟩)
       have hq : doneU l c sd (i + 1) = doneU l c sd i := by rw [hs, if_neg (by omega), if_neg (beq_eq_false_iff_ne.1 es), if_neg (by omega), List.append_nil]
       have q : SL w (Slc 3 1 (.slice da ((doneU l c sd i).length) dc) (doneU l c sd (i + 1)).length (nats (doneU l c sd (i + 1))) :: A :: F) := by
        rw [hq]
        exact H.pi [1, 2] 3
       exact ⟨(i + 1, (.slice da ((doneU l c sd i).length) dc)), ⟨rfl, rfl, trivial⟩, ⟨(by omega : i + 1 ≤ l.length), q⟩, (show l.length - (i + 1) < l.length - i by omega)⟩
      have h3 := of_decide_eq_true e3
      refine IW.i i (BB.vr fun q4 e4 => ?_)
      cases q4
      ·have h4 := of_decide_eq_false e4
       refine Cn.no (⟨IW.i i ?_⟩)
       have hq : doneU l c sd (i + 1) = doneU l c sd i := by rw [hs, if_neg (by omega), if_neg (beq_eq_false_iff_ne.1 es), if_neg (by omega), List.append_nil]
       have q : SL w (Slc 3 1 (.slice da ((doneU l c sd i).length) dc) (doneU l c sd (i + 1)).length (nats (doneU l c sd (i + 1))) :: A :: F) := by
        rw [hq]
        exact H.pi [1, 2] 3
       exact ⟨(i + 1, (.slice da ((doneU l c sd i).length) dc)), ⟨rfl, rfl, trivial⟩, ⟨(by omega : i + 1 ≤ l.length), q⟩, (show l.length - (i + 1) < l.length - i by omega)⟩
      have h4 := of_decide_eq_true e4
      refine Cn.yes (⟨IW.i i ?_⟩)
      refine Mn.new (fun b => .slice (some ⟨b, 0, none⟩) 1 1) #[.int .i64 (↑i + 1)] 3 (by kernel_rfl) H fun b57 w H => ?_
      refine SL.appS H.up2 (.tmp 54) (.tmp 57) 67 (.int .i64 0) 8 (by rfl) (by kernel_rfl) (by kernel_rfl) (by rfl) (by decide) (by rfl) (some ⟨b57, 0, none⟩) 1 1 [.int .i64 (↑i + 1)] (by rfl) (H.rdRow 0 rfl (by rfl) (by decide)) (by rfl) (by omega) (by decide) (by decide) fun g5 c5 w H => ?_
      refine ⟨IW.i i ?_⟩
      have hq : doneU l c sd (i + 1) = doneU l c sd i ++ [i + 1] := by rw [hs, if_neg (by omega), if_neg (beq_eq_false_iff_ne.1 es), if_pos (by omega)]
      have q : SL w (Slc 3 1 (.slice (some ⟨g5, 0, none⟩) ((doneU l c sd i).length + 1) c5) (doneU l c sd (i + 1)).length (nats (doneU l c sd (i + 1))) :: A :: F) := by
       rw [hq, nats_app1, List.length_append]
       exact H.pi [0, 3] 4
      exact ⟨(i + 1, (.slice (some ⟨g5, 0, none⟩) ((doneU l c sd i).length + 1) c5)), ⟨rfl, rfl, trivial⟩, ⟨(by omega : i + 1 ≤ l.length), q⟩, (show l.length - (i + 1) < l.length - i by omega)⟩
     refine Cn.yes (⟨Mn.new (fun b => .slice (some ⟨b, 0, none⟩) 1 1) #[.int .i64 ↑i] 3 (by kernel_rfl) H fun b42 w H => ?_⟩)
     refine SL.appS H.up2 (.tmp 40) (.tmp 42) 67 (.int .i64 0) 8 (by rfl) (by kernel_rfl) (by kernel_rfl) (by rfl) (by decide) (by rfl) (some ⟨b42, 0, none⟩) 1 1 [.int .i64 ↑i] (by rfl) (H.rdRow 0 rfl (by rfl) (by decide)) (by rfl) (by omega) (by decide) (by decide) fun g6 c6 w H => ?_
     refine ⟨IW.i i ?_⟩
     have hq : doneU l c sd (i + 1) = doneU l c sd i ++ [i] := by rw [hs, if_neg (by omega), if_pos (eq_of_beq es)]
     have q : SL w (Slc 3 1 (.slice (some ⟨g6, 0, none⟩) ((doneU l c sd i).length + 1) c6) (doneU l c sd (i + 1)).length (nats (doneU l c sd (i + 1))) :: A :: F) := by
      rw [hq, nats_app, List.length_append]
      exact H.pi [0, 3] 4
     exact ⟨(i + 1, (.slice (some ⟨g6, 0, none⟩) ((doneU l c sd i).length + 1) c6)), ⟨rfl, rfl, trivial⟩, ⟨(by omega : i + 1 ≤ l.length), q⟩, (show l.length - (i + 1) < l.length - i by omega)⟩
    have h2 := bne_iff_ne.1 e2
    refine H.ldi 0 rfl (v := .int .i64 kind) rfl (BB.vr fun q7 e7 => ?_)
    cases q7
    ·have h7 := bne_eq_false_iff_eq.1 e7
     refine H.ldi 0 rfl (v := .bool false) rfl (BB.no rfl (BB.yes rfl (Cn.yes (⟨IW.i i ?_⟩))))
     have hq : doneU l c sd (i + 1) = doneU l c sd i := by rw [hs, if_pos (by omega), List.append_nil]
     have q : SL w (Slc 3 1 (.slice da ((doneU l c sd i).length) dc) (doneU l c sd (i + 1)).length (nats (doneU l c sd (i + 1))) :: A :: F) := by
      rw [hq]
      exact H.pi [1, 2] 3
     exact ⟨(i + 1, (.slice da ((doneU l c sd i).length) dc)), ⟨rfl, rfl, trivial⟩, ⟨(by omega : i + 1 ≤ l.length), q⟩, (show l.length - (i + 1) < l.length - i by omega)⟩
    have h7 := bne_iff_ne.1 e7
    refine Cn.yes (⟨IW.i i ?_⟩)
    have hq : doneU l c sd (i + 1) = doneU l c sd i := by rw [hs, if_pos (by omega), List.append_nil]
    have q : SL w (Slc 3 1 (.slice da ((doneU l c sd i).length) dc) (doneU l c sd (i + 1)).length (nats (doneU l c sd (i + 1))) :: A :: F) := by
     rw [hq]
     exact H.pi [1, 2] 3
    exact ⟨(i + 1, (.slice da ((doneU l c sd i).length) dc)), ⟨rfl, rfl, trivial⟩, ⟨(by omega : i + 1 ≤ l.length), q⟩, (show l.length - (i + 1) < l.length - i by omega)⟩
   have h1 := bne_iff_ne.1 e1
   refine Cn.yes (⟨IW.i i ?_⟩)
   have hq : doneU l c sd (i + 1) = doneU l c sd i := by rw [hs, if_pos (by omega), List.append_nil]
   have q : SL w (Slc 3 1 (.slice da ((doneU l c sd i).length) dc) (doneU l c sd (i + 1)).length (nats (doneU l c sd (i + 1))) :: A :: F) := by
    rw [hq]
    exact H.pi [1, 2] 3
   exact ⟨(i + 1, (.slice da ((doneU l c sd i).length) dc)), ⟨rfl, rfl, trivial⟩, ⟨(by omega : i + 1 ≤ l.length), q⟩, (show l.length - (i + 1) < l.length - i by omega)⟩
  have hs := done_t (s := sd) (c := c) hd
  refine ⟨BB.yd ?_⟩
  refine Cn.yes (⟨⟨Ix.at i 8 (by kernel_rfl) (rfl) (hi) ?_⟩⟩)
  refine H.ldEv 1 rfl hA i he (Nw.as ev0C 53 rfl H fun b9 w H => ?_)
  refine SL.stEv H rfl rfl fun w H => ?_
  refine ⟨H.ldi 0 rfl (v := .int .i64 chan) rfl ?_⟩
  refine BB.vr fun q8 e8 => ?_
  cases q8
  ·have h8 := bne_eq_false_iff_eq.1 e8
   refine H.ldi 0 rfl (v := .int .i64 kind) rfl (BB.vr fun q9 e9 => ?_)
   cases q9
   ·have h9 := bne_eq_false_iff_eq.1 e9
    refine Cn.no (⟨H.ldi 0 rfl (v := .bool send) rfl ?_⟩)
    refine BB.k (BB.vr fun qs es => ?_)
    cases qs
    ·refine Cn.no (⟨H.ldi 0 rfl (v := .int .i64 mate) rfl ?_⟩)
     refine BB.vr fun q10 e10 => ?_
     cases q10
     ·have h10 := of_decide_eq_false e10
      refine Cn.no (⟨IW.i i ?_⟩)
      have hq : doneU l c sd (i + 1) = doneU l c sd i := by rw [hs, if_neg (by omega), if_neg (beq_eq_false_iff_ne.1 es), if_neg (by omega), List.append_nil]
      have q : SL w (Slc 3 1 (.slice da ((doneU l c sd i).length) dc) (doneU l c sd (i + 1)).length (nats (doneU l c sd (i + 1))) :: A :: F) := by
       rw [hq]
       exact H.pi [1, 2] 3
      exact ⟨(i + 1, (.slice da ((doneU l c sd i).length) dc)), ⟨rfl, rfl, trivial⟩, ⟨(by omega : i + 1 ≤ l.length), q⟩, (show l.length - (i + 1) < l.length - i by omega)⟩
     have h10 := of_decide_eq_true e10
     refine IW.i i (BB.vr fun q11 e11 => ?_)
     cases q11
     ·have h11 := of_decide_eq_false e11
      refine Cn.no (⟨IW.i i ?_⟩)
      have hq : doneU l c sd (i + 1) = doneU l c sd i := by rw [hs, if_neg (by omega), if_neg (beq_eq_false_iff_ne.1 es), if_neg (by omega), List.append_nil]
      have q : SL w (Slc 3 1 (.slice da ((doneU l c sd i).length) dc) (doneU l c sd (i + 1)).length (nats (doneU l c sd (i + 1))) :: A :: F) := by
       rw [hq]
       exact H.pi [1, 2] 3
      exact ⟨(i + 1, (.slice da ((doneU l c sd i).length) dc)), ⟨rfl, rfl, trivial⟩, ⟨(by omega : i + 1 ≤ l.length), q⟩, (show l.length - (i + 1) < l.length - i by omega)⟩
     have h11 := of_decide_eq_true e11
     refine Cn.yes (⟨IW.i i ?_⟩)
     refine Mn.new (fun b => .slice (some ⟨b, 0, none⟩) 1 1) #[.int .i64 (↑i + 1)] 3 (by kernel_rfl) H fun b57 w H => ?_
     refine SL.appS H.up2 (.tmp 54) (.tmp 57) 67 (.int .i64 0) 8 (by rfl) (by kernel_rfl) (by kernel_rfl) (by rfl) (by decide) (by rfl) (some ⟨b57, 0, none⟩) 1 1 [.int .i64 (↑i + 1)] (by rfl) (H.rdRow 0 rfl (by rfl) (by decide)) (by rfl) (by omega) (by decide) (by decide) fun g12 c12 w H => ?_
     refine ⟨IW.i i ?_⟩
     have hq : doneU l c sd (i + 1) = doneU l c sd i ++ [i + 1] := by rw [hs, if_neg (by omega), if_neg (beq_eq_false_iff_ne.1 es), if_pos (by omega)]
     have q : SL w (Slc 3 1 (.slice (some ⟨g12, 0, none⟩) ((doneU l c sd i).length + 1) c12) (doneU l c sd (i + 1)).length (nats (doneU l c sd (i + 1))) :: A :: F) := by
      rw [hq, nats_app1, List.length_append]
      exact H.pi [0, 3] 4
     exact ⟨(i + 1, (.slice (some ⟨g12, 0, none⟩) ((doneU l c sd i).length + 1) c12)), ⟨rfl, rfl, trivial⟩, ⟨(by omega : i + 1 ≤ l.length), q⟩, (show l.length - (i + 1) < l.length - i by omega)⟩
    refine Cn.yes (⟨Mn.new (fun b => .slice (some ⟨b, 0, none⟩) 1 1) #[.int .i64 ↑i] 3 (by kernel_rfl) H fun b42 w H => ?_⟩)
    refine SL.appS H.up2 (.tmp 40) (.tmp 42) 67 (.int .i64 0) 8 (by rfl) (by kernel_rfl) (by kernel_rfl) (by rfl) (by decide) (by rfl) (some ⟨b42, 0, none⟩) 1 1 [.int .i64 ↑i] (by rfl) (H.rdRow 0 rfl (by rfl) (by decide)) (by rfl) (by omega) (by decide) (by decide) fun g13 c13 w H => ?_
    refine ⟨IW.i i ?_⟩
    have hq : doneU l c sd (i + 1) = doneU l c sd i ++ [i] := by rw [hs, if_neg (by omega), if_pos (eq_of_beq es)]
    have q : SL w (Slc 3 1 (.slice (some ⟨g13, 0, none⟩) ((doneU l c sd i).length + 1) c13) (doneU l c sd (i + 1)).length (nats (doneU l c sd (i + 1))) :: A :: F) := by
     rw [hq, nats_app, List.length_append]
     exact H.pi [0, 3] 4
    exact ⟨(i + 1, (.slice (some ⟨g13, 0, none⟩) ((doneU l c sd i).length + 1) c13)), ⟨rfl, rfl, trivial⟩, ⟨(by omega : i + 1 ≤ l.length), q⟩, (show l.length - (i + 1) < l.length - i by omega)⟩
   have h9 := bne_iff_ne.1 e9
   refine H.ldi 0 rfl (v := .int .i64 kind) rfl (BB.vr fun q14 e14 => ?_)
   cases q14
   ·have h14 := bne_eq_false_iff_eq.1 e14
    refine H.ldi 0 rfl (v := .bool true) rfl (BB.yes rfl (BB.no rfl (Cn.no (⟨H.ldi 0 rfl (v := .bool send) rfl ?_⟩))))
    refine BB.k (BB.vr fun qs es => ?_)
    cases qs
    ·refine Cn.no (⟨H.ldi 0 rfl (v := .int .i64 mate) rfl ?_⟩)
     refine BB.vr fun q15 e15 => ?_
     cases q15
     ·have h15 := of_decide_eq_false e15
      refine Cn.no (⟨IW.i i ?_⟩)
      have hq : doneU l c sd (i + 1) = doneU l c sd i := by rw [hs, if_neg (by omega), if_neg (beq_eq_false_iff_ne.1 es), if_neg (by omega), List.append_nil]
      have q : SL w (Slc 3 1 (.slice da ((doneU l c sd i).length) dc) (doneU l c sd (i + 1)).length (nats (doneU l c sd (i + 1))) :: A :: F) := by
       rw [hq]
       exact H.pi [1, 2] 3
      exact ⟨(i + 1, (.slice da ((doneU l c sd i).length) dc)), ⟨rfl, rfl, trivial⟩, ⟨(by omega : i + 1 ≤ l.length), q⟩, (show l.length - (i + 1) < l.length - i by omega)⟩
     have h15 := of_decide_eq_true e15
     refine IW.i i (BB.vr fun q16 e16 => ?_)
     cases q16
     ·have h16 := of_decide_eq_false e16
      refine Cn.no (⟨IW.i i ?_⟩)
      have hq : doneU l c sd (i + 1) = doneU l c sd i := by rw [hs, if_neg (by omega), if_neg (beq_eq_false_iff_ne.1 es), if_neg (by omega), List.append_nil]
      have q : SL w (Slc 3 1 (.slice da ((doneU l c sd i).length) dc) (doneU l c sd (i + 1)).length (nats (doneU l c sd (i + 1))) :: A :: F) := by
       rw [hq]
       exact H.pi [1, 2] 3
      exact ⟨(i + 1, (.slice da ((doneU l c sd i).length) dc)), ⟨rfl, rfl, trivial⟩, ⟨(by omega : i + 1 ≤ l.length), q⟩, (show l.length - (i + 1) < l.length - i by omega)⟩
     have h16 := of_decide_eq_true e16
     refine Cn.yes (⟨IW.i i ?_⟩)
     refine Mn.new (fun b => .slice (some ⟨b, 0, none⟩) 1 1) #[.int .i64 (↑i + 1)] 3 (by kernel_rfl) H fun b57 w H => ?_
     refine SL.appS H.up2 (.tmp 54) (.tmp 57) 67 (.int .i64 0) 8 (by rfl) (by kernel_rfl) (by kernel_rfl) (by rfl) (by decide) (by rfl) (some ⟨b57, 0, none⟩) 1 1 [.int .i64 (↑i + 1)] (by rfl) (H.rdRow 0 rfl (by rfl) (by decide)) (by rfl) (by omega) (by decide) (by decide) fun g17 c17 w H => ?_
     refine ⟨IW.i i ?_⟩
     have hq : doneU l c sd (i + 1) = doneU l c sd i ++ [i + 1] := by rw [hs, if_neg (by omega), if_neg (beq_eq_false_iff_ne.1 es), if_pos (by omega)]
     have q : SL w (Slc 3 1 (.slice (some ⟨g17, 0, none⟩) ((doneU l c sd i).length + 1) c17) (doneU l c sd (i + 1)).length (nats (doneU l c sd (i + 1))) :: A :: F) := by
      rw [hq, nats_app1, List.length_append]
      exact H.pi [0, 3] 4
     exact ⟨(i + 1, (.slice (some ⟨g17, 0, none⟩) ((doneU l c sd i).length + 1) c17)), ⟨rfl, rfl, trivial⟩, ⟨(by omega : i + 1 ≤ l.length), q⟩, (show l.length - (i + 1) < l.length - i by omega)⟩
    refine Cn.yes (⟨Mn.new (fun b => .slice (some ⟨b, 0, none⟩) 1 1) #[.int .i64 ↑i] 3 (by kernel_rfl) H fun b42 w H => ?_⟩)
    refine SL.appS H.up2 (.tmp 40) (.tmp 42) 67 (.int .i64 0) 8 (by rfl) (by kernel_rfl) (by kernel_rfl) (by rfl) (by decide) (by rfl) (some ⟨b42, 0, none⟩) 1 1 [.int .i64 ↑i] (by rfl) (H.rdRow 0 rfl (by rfl) (by decide)) (by rfl) (by omega) (by decide) (by decide) fun g18 c18 w H => ?_
    refine ⟨IW.i i ?_⟩
    have hq : doneU l c sd (i + 1) = doneU l c sd i ++ [i] := by rw [hs, if_neg (by omega), if_pos (eq_of_beq es)]
    have q : SL w (Slc 3 1 (.slice (some ⟨g18, 0, none⟩) ((doneU l c sd i).length + 1) c18) (doneU l c sd (i + 1)).length (nats (doneU l c sd (i + 1))) :: A :: F) := by
     rw [hq, nats_app, List.length_append]
     exact H.pi [0, 3] 4
    exact ⟨(i + 1, (.slice (some ⟨g18, 0, none⟩) ((doneU l c sd i).length + 1) c18)), ⟨rfl, rfl, trivial⟩, ⟨(by omega : i + 1 ≤ l.length), q⟩, (show l.length - (i + 1) < l.length - i by omega)⟩
   have h14 := bne_iff_ne.1 e14
   refine Cn.yes (⟨IW.i i ?_⟩)
   have hq : doneU l c sd (i + 1) = doneU l c sd i := by rw [hs, if_pos (by omega), List.append_nil]
   have q : SL w (Slc 3 1 (.slice da ((doneU l c sd i).length) dc) (doneU l c sd (i + 1)).length (nats (doneU l c sd (i + 1))) :: A :: F) := by
    rw [hq]
    exact H.pi [1, 2] 3
   exact ⟨(i + 1, (.slice da ((doneU l c sd i).length) dc)), ⟨rfl, rfl, trivial⟩, ⟨(by omega : i + 1 ≤ l.length), q⟩, (show l.length - (i + 1) < l.length - i by omega)⟩
  have h8 := bne_iff_ne.1 e8
  refine Cn.yes (⟨IW.i i ?_⟩)
  have hq : doneU l c sd (i + 1) = doneU l c sd i := by rw [hs, if_pos (by omega), List.append_nil]
  have q : SL w (Slc 3 1 (.slice da ((doneU l c sd i).length) dc) (doneU l c sd (i + 1)).length (nats (doneU l c sd (i + 1))) :: A :: F) := by
   rw [hq]
   exact H.pi [1, 2] 3
  exact ⟨(i + 1, (.slice da ((doneU l c sd i).length) dc)), ⟨rfl, rfl, trivial⟩, ⟨(by omega : i + 1 ≤ l.length), q⟩, (show l.length - (i + 1) < l.length - i by omega)⟩
 have hob : i = l.length := by omega
 obtain rfl := hob
 refine ⟨BB.nd ?_⟩
 refine Cn.no (⟨ret1 (.slice da ((doneU l c sd l.length).length) dc) rfl (by rfl) ?_⟩)
 exact ⟨da, dc, rfl, H⟩
section
variable {l : List Ev} {g c : Int} {d j i f k t r m : Nat} {e : Ev} {s : Bool}
theorem size_le (h : RtL l) : sizeF l c ≤ 99 := by
 unfold sizeF
 cases hf : l.find? (fun e => e.kind == 2 && e.chan == c) with
 | none => exact Nat.zero_le _
 | some e =>
  obtain ⟨i, hi, rfl⟩ := List.getElem_of_mem (List.mem_of_find?_eq_some hf)
  have hd : l.getD i evz = l[i] := by rw [List.getD_eq_getElem?_getD, List.getElem?_eq_getElem hi]; rfl
  have hv := (evB_of (h.ent hi)).value
  rw [hd] at hv
  dsimp only
  omega
theorem btw_step : btwF l f (k + 1) g = (btwF l f k g || (decide (f < k) && (l.getD k evz).g == g && (l.getD k evz).kind != 13)) := by
 unfold btwF
 rw [List.range_succ, List.any_append, List.any_cons, List.any_nil, Bool.or_false]
theorem btw_none : btwF l f (f + 1) g = false := by
 unfold btwF
 rw [List.any_eq_false]
 intro k hk
 rw [List.mem_range] at hk
 rw [decide_eq_false (by omega)]
 simp
theorem btw_no (hs : btwF l f (k + 1) g = (false || (decide (f < k) && e.g == g && e.kind != 13))) (h : ¬ (e.g = g ∧ e.kind ≠ 13)) : btwF l f (k + 1) g = false := by
 rw [hs, Bool.false_or, Bool.eq_false_iff]
 intro hh
 simp at hh
 exact h ⟨hh.1.2, hh.2⟩
theorem btw_yes (hs : btwF l f (k + 1) g = (false || (decide (f < k) && e.g == g && e.kind != 13))) (h1 : f < k) (h2 : e.g = g) (h3 : e.kind ≠ 13) : btwF l f (k + 1) g = true := by
 rw [hs]
 simp [h1, h2, h3]
theorem btw_mono (h : k ≤ m) (hb : btwF l f k g = true) : btwF l f m g = true := by
 unfold btwF at hb ⊢
 rw [List.any_eq_true] at hb ⊢
 obtain ⟨x, hx, h2⟩ := hb
 rw [List.mem_range] at hx
 exact ⟨x, List.mem_range.2 (by omega), h2⟩
def crsB (l : List Ev) (O N : List Nat) (z f t r k : Nat) : Bool :=
 (r == 3 && decide (k < N.length) && begF l (N.getD k 0) == f && O.getD k 0 == t) ||
  (decide (k + z < N.length) && begF l (O.getD k 0) == f && N.getD (k + z) 0 == t && (r == 5 && z == 0 || r == 6 && decide (0 < z)))
theorem crsB_iff {O N : List Nat} {z : Nat} : crsB l O N z f t r k = true ↔ (r = 3 ∧ k < N.length ∧ begF l (N.getD k 0) = f ∧ O.getD k 0 = t) ∨ (k + z < N.length ∧ begF l (O.getD k 0) = f ∧ N.getD (k + z) 0 = t ∧ (r = 5 ∧ z = 0 ∨ r = 6 ∧ 0 < z)) := by
 unfold crsB
 simp only [Bool.or_eq_true, Bool.and_eq_true, beq_iff_eq, decide_eq_true_eq, and_assoc]
theorem crs_is (h : ¬ (l.getD t evz).chan < 0) : crsF l f t r = (List.range (doneF l (l.getD t evz).chan false).length).any (crsB l (doneF l (l.getD t evz).chan false) (doneF l (l.getD t evz).chan true) (sizeF l (l.getD t evz).chan) f t r) := by
 unfold crsF
 dsimp only
 rw [if_neg h]
 rfl
theorem any_step {p : Nat → Bool} (h : (List.range k).any p = false) (h2 : p k = false) : (List.range (k + 1)).any p = false := by
 rw [List.range_succ, List.any_append, h, List.any_cons, h2]
 rfl
theorem any_hit {p : Nat → Bool} (h : k < m) (h2 : p k = true) : (List.range m).any p = true := List.any_eq_true.2 ⟨k, List.mem_range.2 h, h2⟩
end
theorem f_between {w : World} {F : List Piece} {A : Piece} {lb lo lc : Nat} {l : List Ev} (hA : EvA A lb lo l) {f t r : Nat} {g : Int} (hf : f < t) (ht : t < l.length) (hll : l.length ≤ 2000) (H : SL w (A :: F)) : Calls Tryz.prog 80 #[.slice (some ⟨lb, lo, none⟩) l.length lc, .agg #[.int .i64 ↑f, .int .i64 ↑t, .int .i64 ↑r], .int .i64 g] w fun o w' => o = .returned (.bool (btwF l f t g)) ∧ SL w' (A :: F) := by
 refine calls_d (args := [_, _, _]) Tryz.func80 rfl ?_
 refine ⟨Nw.as #[.int .i64 ↑f, .int .i64 ↑t, .int .i64 ↑r] 36 rfl H fun b4 w H => ?_⟩
 refine ⟨H.ldi 0 rfl (v := .int .i64 ↑f) rfl ?_⟩
 refine IW.i f (⟨den.loop (ι := Nat) [(6, 7), (11, 31)] (by kernel_rfl) (fun k => [(7, .int .i64 ↑k)]) (fun k w => (f < k ∧ k ≤ t ∧ btwF l f k g = false) ∧ SL w (row b4 #[.int .i64 ↑f, .int .i64 ↑t, .int .i64 ↑r] 36 :: A :: F)) (fun k => t - k) (f + 1) ⟨rfl, trivial⟩ ⟨⟨by omega, by omega, btw_none⟩, (H)⟩ ?_⟩)
 rintro k s w ⟨hc, H⟩
 obtain ⟨hk0, hk1, hB⟩ := hc
 have hob := Nat.lt_or_ge k t
 rcases hob with hkt | hkt
 ·have hob : ∃ x, l[k]? = some x := ⟨_, get_of (by omega)⟩
  obtain ⟨⟨ykind, yg, ychan, ycase_, yvalue, ymate, ysend, yok⟩, hy⟩ := hob
  have hdy : l.getD k evz = ⟨ykind, yg, ychan, ycase_, yvalue, ymate, ysend, yok⟩ := by rw [List.getD_eq_getElem?_getD, hy]; rfl
  have hs := btw_step (l := l) (f := f) (k := k) (g := g)
  rw [hB, hdy] at hs
  refine ⟨H.ldi 0 rfl (v := .int .i64 ↑t) rfl ?_⟩
  refine BB.yd (Cn.yes (⟨⟨Ix.at k 8 (by kernel_rfl) (rfl) (by omega) ?_⟩⟩))
  refine H.ldE 1 rfl hA k 1 hy (v := .int .i64 yg) rfl (BB.vr fun q1 e1 => ?_)
  cases q1
  ·have h1 := neq_of e1
   refine Cn.no (⟨IW.i k ?_⟩)
   have hq : btwF l f (k + 1) g = false := btw_no hs (by dsimp only; omega)
   exact ⟨k + 1, ⟨rfl, trivial⟩, ⟨⟨by omega, by omega, hq⟩, H⟩, (show t - (k + 1) < t - k by omega)⟩
  have h1 := eq_of_beq e1
  refine Ix.at k 8 (by kernel_rfl) (rfl) (by omega) ?_
  refine H.ldE 1 rfl hA k 0 hy (v := .int .i64 ykind) rfl (BB.vr fun q2 e2 => ?_)
  cases q2
  ·have h2 := bne_eq_false_iff_eq.1 e2
   refine Cn.no (⟨IW.i k ?_⟩)
   have hq : btwF l f (k + 1) g = false := btw_no hs (by dsimp only; omega)
   exact ⟨k + 1, ⟨rfl, trivial⟩, ⟨⟨by omega, by omega, hq⟩, H⟩, (show t - (k + 1) < t - k by omega)⟩
  have h2 := bne_iff_ne.1 e2
  refine Cn.yes (⟨ret1 (.bool true) rfl (by rfl) ?_⟩)
  exact ⟨by rw [btw_mono (show k + 1 ≤ t by omega) (btw_yes hs (by omega) (by dsimp only; omega) (by dsimp only; omega))], H.pi [1] 2⟩
 have hob : t = k := by omega
 obtain rfl := hob
 refine ⟨H.ldi 0 rfl (v := .int .i64 ↑t) rfl ?_⟩
 refine BB.nd (Cn.no (⟨ret1 (.bool false) rfl (by rfl) ?_⟩))
 exact ⟨by rw [hB], H.pi [1] 2⟩
set_option maxHeartbeats 4000000 in
theorem f_crosses {w : World} {F : List Piece} {A : Piece} {lb lo lc : Nat} {l : List Ev} (hA : EvA A lb lo l) (hR : RtL l) {f t r : Nat} (hf : f < t) (ht : t < l.length) (hr6 : r ≤ 6) (hll : l.length ≤ 2000) (H : SL w (A :: F)) : Calls Tryz.prog 81 #[.slice (some ⟨lb, lo, none⟩) l.length lc, .agg #[.int .i64 ↑f, .int .i64 ↑t, .int .i64 ↑r]] w fun o w' => o = .returned (.bool (crsF l f t r)) ∧ SL w' (A :: F) := by
 obtain ⟨⟨kind, g, chan, case_, value, mate, send, ok⟩, he⟩ : ∃ x, l[t]? = some x := ⟨_, get_of ht⟩
 have hd : l.getD t evz = ⟨kind, g, chan, case_, value, mate, send, ok⟩ := by rw [List.getD_eq_getElem?_getD, he]; rfl
 obtain ⟨O, hO⟩ : ∃ O, doneF l chan false = O := ⟨_, rfl⟩
 obtain ⟨N, hN⟩ : ∃ N, doneF l chan true = N := ⟨_, rfl⟩
 obtain ⟨z, hZ⟩ : ∃ z, sizeF l chan = z := ⟨_, rfl⟩
 have hzb : z ≤ 100000 := by
  have := size_le (c := chan) hR
  omega
 have hOl : O.length ≤ l.length := by
  rw [← hO]
  exact done_len_le
 have hNl : N.length ≤ l.length := by
  rw [← hN]
  exact done_len_le
 refine calls_d (args := [_, _]) Tryz.func81 rfl ?_
 refine ⟨Nw.as #[.int .i64 ↑f, .int .i64 ↑t, .int .i64 ↑r] 36 rfl H fun b3 w H => ?_⟩
 refine ⟨H.ldi 0 rfl (v := .int .i64 ↑t) rfl ?_⟩
 refine Ix.at t 8 (by kernel_rfl) (rfl) (ht) ?_
 refine H.ldE 1 rfl hA t 2 he (v := .int .i64 chan) rfl (⟨BB.vr fun q1 e1 => ?_⟩)
 cases q1
 ·have h1 := of_decide_eq_false e1
  refine Cn.no (⟨?_⟩)
  have h1 := H.pi [1, 0] 2
  simp only [pl, nth, drL] at h1
  have K := f_size (c := chan) (lc := lc) hA hll h1
  rw [szI_rt hR, hZ] at K
  refine Cl.s K fun w H => ?_
  replace H := H.pi [1, 0] 2
  simp only [pl, nth, drL] at H
  refine ⟨?_⟩
  have h1 := H.pi [1, 0] 2
  simp only [pl, nth, drL] at h1
  have K := f_done (c := chan) (sd := true) (lc := lc) hA hll h1
  rw [hN] at K
  refine Cl.b K ?_
  rintro _ w ⟨na, nc, rfl, H⟩
  refine ⟨_, rfl, ?_⟩
  replace H := H.pi [0, 2, 1] 3
  simp only [pl, nth, drL] at H
  refine ⟨?_⟩
  have h1 := H.pi [2, 0, 1] 3
  simp only [pl, nth, drL] at h1
  have K := f_done (c := chan) (sd := false) (lc := lc) hA hll h1
  rw [hO] at K
  refine Cl.b K ?_
  rintro _ w ⟨oa, oc, rfl, H⟩
  refine ⟨_, rfl, ?_⟩
  replace H := H.pi [0, 2, 3, 1] 4
  simp only [pl, nth, drL] at H
  refine ⟨⟨den.loop (ι := Nat) [(4, 4), (9, 10), (30, 107)] (by kernel_rfl) (fun k => [(30, .int .i64 ↑k)]) (fun k w => (k ≤ O.length ∧ (List.range k).any (crsB l O N z f t r) = false) ∧ SL w (Slc 3 1 (.slice oa O.length oc) O.length (nats O) :: Slc 3 1 (.slice na N.length nc) N.length (nats N) :: row b3 #[.int .i64 ↑f, .int .i64 ↑t, .int .i64 ↑r] 36 :: A :: F)) (fun k => O.length - k) 0 ⟨rfl, trivial⟩ ⟨⟨Nat.zero_le _, rfl⟩, (H)⟩ ?_⟩⟩
  rintro k s w ⟨hc, H⟩
  obtain ⟨hk0, hB⟩ := hc
  have hob := Nat.lt_or_ge k O.length
  rcases hob with hko | hko
  ·have hob : ∃ o, O[k]? = some o := ⟨_, get_of hko⟩
   obtain ⟨o, ho⟩ := hob
   have ho' : O.getD k 0 = o := (getD_of ho).2
   have hol : o < l.length := by rw [← hO] at ho; exact done_lt (Nat.le_refl _) o (List.mem_of_getElem? ho)
   have hob := SL.slcAddr (H) (by omega)
   obtain ⟨ob, rfl⟩ := hob
   have hob := Nat.lt_or_ge k N.length
   rcases hob with hk1 | hk1
   ·have hob := Nat.lt_or_ge (k + z) N.length
    rcases hob with hk2 | hk2
    ·have hob := SL.slcAddr (H.up1) (by omega)
     obtain ⟨nb, rfl⟩ := hob
     have hob : ∃ p, N[k]? = some p := ⟨_, get_of hk1⟩
     obtain ⟨p, hp⟩ := hob
     have hp' : N.getD k 0 = p := (getD_of hp).2
     have hpl : p < l.length := by rw [← hN] at hp; exact done_lt (Nat.le_refl _) p (List.mem_of_getElem? hp)
     have hob : ∃ x, N[k + z]? = some x := ⟨_, get_of hk2⟩
     obtain ⟨x, hx⟩ := hob
     have hx' : N.getD (k + z) 0 = x := (getD_of hx).2
     have hcb := crsB_iff (l := l) (O := O) (N := N) (z := z) (f := f) (t := t) (r := r) (k := k)
     rw [ho', hp', hx'] at hcb
     refine ⟨BB.yd ?_⟩
     refine Cn.yes ?_
     refine ⟨⟨RgX.cut (id := 10) (ι := Bool) [(33, 61)] (by kernel_rfl) (fun u1 => [(61, .bool u1)]) (fun u1 w => (u1 = true ↔ (r = 3 ∧ begF l p = f ∧ o = t)) ∧ SL w (Slc 3 1 (.slice (some ⟨ob, 0, none⟩) O.length oc) O.length (nats O) :: Slc 3 1 (.slice (some ⟨nb, 0, none⟩) N.length nc) N.length (nats N) :: row b3 #[.int .i64 ↑f, .int .i64 ↑t, .int .i64 ↑r] 36 :: A :: F)) ?_ ?_⟩⟩
     ·refine ⟨Drw.oft (.calm 0 (.calm 1 (.calm 2 (.calm 3 (.calm 4 (.calm 5 (.calm 6 (.calm 7 (.calm 8 (.calm 9 (.calm 10 (.calm 11 (.calm 12 (.calm 13 (.calm 14 (.calm 16 (.calm 17 (.act 15 false (.act 18 true (.pure 19 (.pure 20 (.pure 21 (.pure 22 (.pure 23 (.pure 25 (.two 24 true (.act 26 true (.act 27 true (.pure 28 .nil))) 26 true (.act 24 true (.act 27 true (.pure 28 .nil))))))))))))))))))))))))))))) (by kernel_rfl) mixed (fun w => SL w _) H.drew ?_⟩
      replace H := H.drew
      refine LdC.i 2 rfl (v := .int .i64 ↑r) rfl (BB.vr fun q2 e2 => ?_)
      cases q2
      ·have h2 := neq_of e2
       refine ⟨?_, ?_⟩
       ·exact ⟨false, ⟨rfl, trivial⟩, ⟨fun hh => Bool.noConfusion hh, fun hh => by exfalso; omega⟩, H⟩
       exact ⟨false, ⟨rfl, trivial⟩, ⟨fun hh => Bool.noConfusion hh, fun hh => by exfalso; omega⟩, H⟩
      have h2 := eq_of_beq e2
      refine BB.yd (Ix.at0 k 1 (by kernel_rfl) (rfl) (hk1) ?_)
      refine LdC.S 1 rfl (v := .int .i64 ↑p) (nats_at hp) (LdC.i 2 rfl (v := .int .i64 ↑f) rfl ?_)
      have h1 := H.pi [3, 0, 1, 2] 4
      simp only [pl, nth, drL] at h1
      refine Cl.s (f_begins (lc := lc) hA (hpl) hll h1) fun w H => ?_
      replace H := H.pi [1, 2, 3, 0] 4
      simp only [pl, nth, drL] at H
      refine ⟨.inr (H.pi [0, 1, 2, 3] 4), ?_⟩
      refine BB.vr fun q3 e3 => ?_
      refine ⟨.inl rfl, ?_⟩
      cases q3
      ·have h3 := neq_of e3
       refine ⟨?_, ?_⟩
       ·exact ⟨false, ⟨rfl, trivial⟩, ⟨fun hh => Bool.noConfusion hh, fun hh => by exfalso; omega⟩, H⟩
       exact ⟨false, ⟨rfl, trivial⟩, ⟨fun hh => Bool.noConfusion hh, fun hh => by exfalso; omega⟩, H⟩
      have h3 := eq_of_beq e3
      refine Ix.at0 k 1 (by kernel_rfl) (rfl) (hko) ?_
      refine ⟨?_, ?_⟩
      ·refine H.ldS 0 rfl (v := .int .i64 ↑o) (nats_at ho) (⟨.inl rfl, ?_⟩)
       refine H.ldi 2 rfl (v := .int .i64 ↑t) rfl (⟨.inl rfl, ?_⟩)
       refine BB.vr fun q4 e4 => ?_
       refine ⟨.inl rfl, ?_⟩
       exact ⟨q4, ⟨rfl, trivial⟩, ⟨fun hh => by subst hh; have := eq_of_beq e4; omega, fun hh => by rw [← e4]; exact beq_iff_eq.2 (by omega)⟩, H⟩
      refine H.ldi 2 rfl (v := .int .i64 ↑t) rfl (⟨.inl rfl, ?_⟩)
      refine H.ldS 0 rfl (v := .int .i64 ↑o) (nats_at ho) (⟨.inl rfl, ?_⟩)
      refine BB.vr fun q5 e5 => ?_
      refine ⟨.inl rfl, ?_⟩
      exact ⟨q5, ⟨rfl, trivial⟩, ⟨fun hh => by subst hh; have := eq_of_beq e5; omega, fun hh => by rw [← e5]; exact beq_iff_eq.2 (by omega)⟩, H⟩
     rintro u1 s w ⟨hu1, H⟩
     cases u1
     ·have hu1' : ¬ ((r = 3 ∧ begF l p = f ∧ o = t)) := fun hh => Bool.noConfusion (hu1.2 hh)
      refine Cn.no (⟨IW.z ((k : Int) + (z : Int)) ?_⟩)
      refine RgX.cut (id := 13) (ι := Bool) [(65, 106)] (by kernel_rfl) (fun u2 => [(106, .bool u2)]) (fun u2 w => (u2 = true ↔ (begF l o = f ∧ x = t ∧ (r = 5 ∧ z = 0 ∨ r = 6 ∧ 0 < z))) ∧ SL w (Slc 3 1 (.slice (some ⟨ob, 0, none⟩) O.length oc) O.length (nats O) :: Slc 3 1 (.slice (some ⟨nb, 0, none⟩) N.length nc) N.length (nats N) :: row b3 #[.int .i64 ↑f, .int .i64 ↑t, .int .i64 ↑r] 36 :: A :: F)) ?_ ?_
      ·refine ⟨Drw.oft (.calm 0 (.calm 1 (.calm 2 (.calm 3 (.calm 4 (.calm 5 (.calm 6 (.calm 7 (.calm 8 (.calm 9 (.calm 11 (.calm 12 (.act 10 false (.act 13 true (.pure 14 (.pure 15 (.pure 16 (.pure 17 (.pure 18 (.pure 20 (.two 19 true (.act 21 true (.act 22 true (.pure 23 (.pure 24 (.pure 25 (.act 26 true (.act 27 true (.pure 28 (.pure 29 (.act 30 true (.pure 31 (.pure 32 (.pure 33 (.act 34 true (.act 35 true (.pure 36 (.pure 37 (.act 38 true (.pure 39 (.pure 40 (.pure 41 .nil))))))))))))))))))))) 21 true (.act 19 true (.act 22 true (.pure 23 (.pure 24 (.pure 25 (.act 26 true (.act 27 true (.pure 28 (.pure 29 (.act 30 true (.pure 31 (.pure 32 (.pure 33 (.act 34 true (.act 35 true (.pure 36 (.pure 37 (.act 38 true (.pure 39 (.pure 40 (.pure 41 .nil)))))))))))))))))))))))))))))))))))))))))) (by kernel_rfl) mixed (fun w => SL w _) H.drew ?_⟩
       replace H := H.drew
       refine BB.yd (Ix.at0 k 1 (by kernel_rfl) (rfl) (hko) ?_)
       refine LdC.S 0 rfl (v := .int .i64 ↑o) (nats_at ho) (LdC.i 2 rfl (v := .int .i64 ↑f) rfl ?_)
       have h1 := H.pi [3, 0, 1, 2] 4
       simp only [pl, nth, drL] at h1
       refine Cl.s (f_begins (lc := lc) hA (hol) hll h1) fun w H => ?_
       replace H := H.pi [1, 2, 3, 0] 4
       simp only [pl, nth, drL] at H
       refine ⟨.inr (H.pi [0, 1, 2, 3] 4), ?_⟩
       refine BB.vr fun q6 e6 => ?_
       refine ⟨.inl rfl, ?_⟩
       cases q6
       ·have h6 := neq_of e6
        refine ⟨?_, ?_⟩
        ·exact ⟨false, ⟨rfl, trivial⟩, ⟨fun hh => Bool.noConfusion hh, fun hh => by exfalso; omega⟩, H⟩
        exact ⟨false, ⟨rfl, trivial⟩, ⟨fun hh => Bool.noConfusion hh, fun hh => by exfalso; omega⟩, H⟩
       have h6 := eq_of_beq e6
       refine Ix.at0 (k + z) 1 (by kernel_rfl) (by omega) (hk2) ?_
       refine ⟨?_, ?_⟩
       ·refine H.ldS 1 rfl (v := .int .i64 ↑x) (nats_at hx) (⟨.inl rfl, ?_⟩)
        refine H.ldi 2 rfl (v := .int .i64 ↑t) rfl (⟨.inl rfl, ?_⟩)
        refine BB.vr fun q7 e7 => ?_
        refine ⟨.inl rfl, ?_⟩
        cases q7
        ·have h7 := neq_of e7
         exact ⟨false, ⟨rfl, trivial⟩, ⟨fun hh => Bool.noConfusion hh, fun hh => by exfalso; omega⟩, H⟩
        have h7 := eq_of_beq e7
        refine H.ldi 2 rfl (v := .int .i64 ↑r) rfl (⟨.inl rfl, ?_⟩)
        refine BB.vr fun q8 e8 => ?_
        refine ⟨.inl rfl, ?_⟩
        cases q8
        ·have h8 := neq_of e8
         refine H.ldi 2 rfl (v := .int .i64 ↑r) rfl (⟨.inl rfl, ?_⟩)
         refine BB.vr fun q9 e9 => ?_
         refine ⟨.inl rfl, ?_⟩
         cases q9
         ·have h9 := neq_of e9
          exact ⟨false, ⟨rfl, trivial⟩, ⟨fun hh => Bool.noConfusion hh, fun hh => by exfalso; omega⟩, H⟩
         have h9 := eq_of_beq e9
         refine BB.vr fun q10 e10 => ?_
         refine ⟨.inl rfl, ?_⟩
         exact ⟨q10, ⟨rfl, trivial⟩, ⟨fun hh => by subst hh; have := of_decide_eq_true e10; omega, fun hh => by rw [← e10]; exact decide_eq_true (by omega)⟩, H⟩
        have h8 := eq_of_beq e8
        refine BB.vr fun q11 e11 => ?_
        refine ⟨.inl rfl, ?_⟩
        cases q11
        ·have h11 := neq_of e11
         refine H.ldi 2 rfl (v := .int .i64 ↑r) rfl (⟨.inl rfl, ?_⟩)
         refine BB.vr fun q12 e12 => ?_
         refine ⟨.inl rfl, ?_⟩
         cases q12
         ·have h12 := neq_of e12
          exact ⟨false, ⟨rfl, trivial⟩, ⟨fun hh => Bool.noConfusion hh, fun hh => by exfalso; omega⟩, H⟩
         have h12 := eq_of_beq e12
         refine BB.vr fun q13 e13 => ?_
         refine ⟨.inl rfl, ?_⟩
         exact ⟨q13, ⟨rfl, trivial⟩, ⟨fun hh => by subst hh; have := of_decide_eq_true e13; omega, fun hh => by rw [← e13]; exact decide_eq_true (by omega)⟩, H⟩
        have h11 := eq_of_beq e11
        exact ⟨true, ⟨rfl, trivial⟩, ⟨fun _ => by omega, fun _ => rfl⟩, H⟩
       refine H.ldi 2 rfl (v := .int .i64 ↑t) rfl (⟨.inl rfl, ?_⟩)
       refine H.ldS 1 rfl (v := .int .i64 ↑x) (nats_at hx) (⟨.inl rfl, ?_⟩)
       refine BB.vr fun q14 e14 => ?_
       refine ⟨.inl rfl, ?_⟩
       cases q14
       ·have h14 := neq_of e14
        exact ⟨false, ⟨rfl, trivial⟩, ⟨fun hh => Bool.noConfusion hh, fun hh => by exfalso; omega⟩, H⟩
       have h14 := eq_of_beq e14
       refine H.ldi 2 rfl (v := .int .i64 ↑r) rfl (⟨.inl rfl, ?_⟩)
       refine BB.vr fun q15 e15 => ?_
       refine ⟨.inl rfl, ?_⟩
       cases q15
       ·have h15 := neq_of e15
        refine H.ldi 2 rfl (v := .int .i64 ↑r) rfl (⟨.inl rfl, ?_⟩)
        refine BB.vr fun q16 e16 => ?_
        refine ⟨.inl rfl, ?_⟩
        cases q16
        ·have h16 := neq_of e16
         exact ⟨false, ⟨rfl, trivial⟩, ⟨fun hh => Bool.noConfusion hh, fun hh => by exfalso; omega⟩, H⟩
        have h16 := eq_of_beq e16
        refine BB.vr fun q17 e17 => ?_
        refine ⟨.inl rfl, ?_⟩
        exact ⟨q17, ⟨rfl, trivial⟩, ⟨fun hh => by subst hh; have := of_decide_eq_true e17; omega, fun hh => by rw [← e17]; exact decide_eq_true (by omega)⟩, H⟩
       have h15 := eq_of_beq e15
       refine BB.vr fun q18 e18 => ?_
       refine ⟨.inl rfl, ?_⟩
       cases q18
       ·have h18 := neq_of e18
        refine H.ldi 2 rfl (v := .int .i64 ↑r) rfl (⟨.inl rfl, ?_⟩)
        refine BB.vr fun q19 e19 => ?_
        refine ⟨.inl rfl, ?_⟩
        cases q19
        ·have h19 := neq_of e19
         exact ⟨false, ⟨rfl, trivial⟩, ⟨fun hh => Bool.noConfusion hh, fun hh => by exfalso; omega⟩, H⟩
        have h19 := eq_of_beq e19
        refine BB.vr fun q20 e20 => ?_
        refine ⟨.inl rfl, ?_⟩
        exact ⟨q20, ⟨rfl, trivial⟩, ⟨fun hh => by subst hh; have := of_decide_eq_true e20; omega, fun hh => by rw [← e20]; exact decide_eq_true (by omega)⟩, H⟩
       have h18 := eq_of_beq e18
       exact ⟨true, ⟨rfl, trivial⟩, ⟨fun _ => by omega, fun _ => rfl⟩, H⟩
      rintro u2 s w ⟨hu2, H⟩
      cases u2
      ·have hu2' : ¬ ((begF l o = f ∧ x = t ∧ (r = 5 ∧ z = 0 ∨ r = 6 ∧ 0 < z))) := fun hh => Bool.noConfusion (hu2.2 hh)
       refine Cn.no (⟨IW.i k ?_⟩)
       have hq : crsB l O N z f t r k = false := Bool.eq_false_iff.2 fun hh => by have := hcb.1 hh; omega
       exact ⟨k + 1, ⟨rfl, trivial⟩, ⟨⟨by omega, any_step hB hq⟩, H⟩, (show O.length - (k + 1) < O.length - k by omega)⟩
      have hu2' := hu2.1 rfl
      refine Cn.yes (⟨ret1 (.bool true) rfl (by rfl) ?_⟩)
      rw [crs_is (by rw [hd]; dsimp only; omega), hd]
      dsimp only
      rw [hO, hN, hZ]
      have hq : crsB l O N z f t r k = true := hcb.2 (by omega)
      exact ⟨by rw [any_hit hko hq], H.pi [3] 4⟩
     have hu1' := hu1.1 rfl
     refine Cn.yes (⟨ret1 (.bool true) rfl (by rfl) ?_⟩)
     rw [crs_is (by rw [hd]; dsimp only; omega), hd]
     dsimp only
     rw [hO, hN, hZ]
     have hq : crsB l O N z f t r k = true := hcb.2 (by omega)
     exact ⟨by rw [any_hit hko hq], H.pi [3] 4⟩
    have hob := SL.slcAddr (H.up1) (by omega)
    obtain ⟨nb, rfl⟩ := hob
    have hob : ∃ p, N[k]? = some p := ⟨_, get_of hk1⟩
    obtain ⟨p, hp⟩ := hob
    have hp' : N.getD k 0 = p := (getD_of hp).2
    have hpl : p < l.length := by rw [← hN] at hp; exact done_lt (Nat.le_refl _) p (List.mem_of_getElem? hp)
    have hcb := crsB_iff (l := l) (O := O) (N := N) (z := z) (f := f) (t := t) (r := r) (k := k)
    rw [ho', hp'] at hcb
    refine ⟨BB.yd ?_⟩
    refine Cn.yes ?_
    refine ⟨⟨RgX.cut (id := 10) (ι := Bool) [(33, 61)] (by kernel_rfl) (fun u1 => [(61, .bool u1)]) (fun u1 w => (u1 = true ↔ (r = 3 ∧ begF l p = f ∧ o = t)) ∧ SL w (Slc 3 1 (.slice (some ⟨ob, 0, none⟩) O.length oc) O.length (nats O) :: Slc 3 1 (.slice (some ⟨nb, 0, none⟩) N.length nc) N.length (nats N) :: row b3 #[.int .i64 ↑f, .int .i64 ↑t, .int .i64 ↑r] 36 :: A :: F)) ?_ ?_⟩⟩
    ·refine ⟨Drw.oft (.calm 0 (.calm 1 (.calm 2 (.calm 3 (.calm 4 (.calm 5 (.calm 6 (.calm 7 (.calm 8 (.calm 9 (.calm 10 (.calm 11 (.calm 12 (.calm 13 (.calm 14 (.calm 16 (.calm 17 (.act 15 false (.act 18 true (.pure 19 (.pure 20 (.pure 21 (.pure 22 (.pure 23 (.pure 25 (.two 24 true (.act 26 true (.act 27 true (.pure 28 .nil))) 26 true (.act 24 true (.act 27 true (.pure 28 .nil))))))))))))))))))))))))))))) (by kernel_rfl) mixed (fun w => SL w _) H.drew ?_⟩
     replace H := H.drew
     refine LdC.i 2 rfl (v := .int .i64 ↑r) rfl (BB.vr fun q21 e21 => ?_)
     cases q21
     ·have h21 := neq_of e21
      refine ⟨?_, ?_⟩
      ·exact ⟨false, ⟨rfl, trivial⟩, ⟨fun hh => Bool.noConfusion hh, fun hh => by exfalso; omega⟩, H⟩
      exact ⟨false, ⟨rfl, trivial⟩, ⟨fun hh => Bool.noConfusion hh, fun hh => by exfalso; omega⟩, H⟩
     have h21 := eq_of_beq e21
     refine BB.yd (Ix.at0 k 1 (by kernel_rfl) (rfl) (hk1) ?_)
     refine LdC.S 1 rfl (v := .int .i64 ↑p) (nats_at hp) (LdC.i 2 rfl (v := .int .i64 ↑f) rfl ?_)
     have h1 := H.pi [3, 0, 1, 2] 4
     simp only [pl, nth, drL] at h1
     refine Cl.s (f_begins (lc := lc) hA (hpl) hll h1) fun w H => ?_
     replace H := H.pi [1, 2, 3, 0] 4
     simp only [pl, nth, drL] at H
     refine ⟨.inr (H.pi [0, 1, 2, 3] 4), ?_⟩
     refine BB.vr fun q22 e22 => ?_
     refine ⟨.inl rfl, ?_⟩
     cases q22
     ·have h22 := neq_of e22
      refine ⟨?_, ?_⟩
      ·exact ⟨false, ⟨rfl, trivial⟩, ⟨fun hh => Bool.noConfusion hh, fun hh => by exfalso; omega⟩, H⟩
      exact ⟨false, ⟨rfl, trivial⟩, ⟨fun hh => Bool.noConfusion hh, fun hh => by exfalso; omega⟩, H⟩
     have h22 := eq_of_beq e22
     refine Ix.at0 k 1 (by kernel_rfl) (rfl) (hko) ?_
     refine ⟨?_, ?_⟩
     ·refine H.ldS 0 rfl (v := .int .i64 ↑o) (nats_at ho) (⟨.inl rfl, ?_⟩)
      refine H.ldi 2 rfl (v := .int .i64 ↑t) rfl (⟨.inl rfl, ?_⟩)
      refine BB.vr fun q23 e23 => ?_
      refine ⟨.inl rfl, ?_⟩
      exact ⟨q23, ⟨rfl, trivial⟩, ⟨fun hh => by subst hh; have := eq_of_beq e23; omega, fun hh => by rw [← e23]; exact beq_iff_eq.2 (by omega)⟩, H⟩
     refine H.ldi 2 rfl (v := .int .i64 ↑t) rfl (⟨.inl rfl, ?_⟩)
     refine H.ldS 0 rfl (v := .int .i64 ↑o) (nats_at ho) (⟨.inl rfl, ?_⟩)
     refine BB.vr fun q24 e24 => ?_
     refine ⟨.inl rfl, ?_⟩
     exact ⟨q24, ⟨rfl, trivial⟩, ⟨fun hh => by subst hh; have := eq_of_beq e24; omega, fun hh => by rw [← e24]; exact beq_iff_eq.2 (by omega)⟩, H⟩
    rintro u1 s w ⟨hu1, H⟩
    cases u1
    ·have hu1' : ¬ ((r = 3 ∧ begF l p = f ∧ o = t)) := fun hh => Bool.noConfusion (hu1.2 hh)
     refine Cn.no (⟨IW.z ((k : Int) + (z : Int)) ?_⟩)
     refine RgX.cut (id := 13) (ι := Bool) [(65, 106)] (by kernel_rfl) (fun u2 => [(106, .bool u2)]) (fun u2 w => u2 = false ∧ SL w (Slc 3 1 (.slice (some ⟨ob, 0, none⟩) O.length oc) O.length (nats O) :: Slc 3 1 (.slice (some ⟨nb, 0, none⟩) N.length nc) N.length (nats N) :: row b3 #[.int .i64 ↑f, .int .i64 ↑t, .int .i64 ↑r] 36 :: A :: F)) ?_ ?_
     ·refine ⟨Drw.oft (.calm 0 (.calm 1 (.calm 2 (.calm 3 (.calm 4 (.calm 5 (.calm 6 (.calm 7 (.calm 8 (.calm 9 (.calm 11 (.calm 12 (.act 10 false (.act 13 true (.pure 14 (.pure 15 (.pure 16 (.pure 17 (.pure 18 (.pure 20 (.two 19 true (.act 21 true (.act 22 true (.pure 23 (.pure 24 (.pure 25 (.act 26 true (.act 27 true (.pure 28 (.pure 29 (.act 30 true (.pure 31 (.pure 32 (.pure 33 (.act 34 true (.act 35 true (.pure 36 (.pure 37 (.act 38 true (.pure 39 (.pure 40 (.pure 41 .nil))))))))))))))))))))) 21 true (.act 19 true (.act 22 true (.pure 23 (.pure 24 (.pure 25 (.act 26 true (.act 27 true (.pure 28 (.pure 29 (.act 30 true (.pure 31 (.pure 32 (.pure 33 (.act 34 true (.act 35 true (.pure 36 (.pure 37 (.act 38 true (.pure 39 (.pure 40 (.pure 41 .nil)))))))))))))))))))))))))))))))))))))))))) (by kernel_rfl) mixed (fun w => SL w _) H.drew ?_⟩
      replace H := H.drew
      refine BB.nd ?_
      refine ⟨?_, ?_⟩
      ·exact ⟨false, ⟨rfl, trivial⟩, rfl, H⟩
      exact ⟨false, ⟨rfl, trivial⟩, rfl, H⟩
     rintro u2 s w ⟨hu2, H⟩
     subst hu2
     refine Cn.no (⟨IW.i k ?_⟩)
     have hq : crsB l O N z f t r k = false := Bool.eq_false_iff.2 fun hh => by have := hcb.1 hh; omega
     exact ⟨k + 1, ⟨rfl, trivial⟩, ⟨⟨by omega, any_step hB hq⟩, H⟩, (show O.length - (k + 1) < O.length - k by omega)⟩
    have hu1' := hu1.1 rfl
    refine Cn.yes (⟨ret1 (.bool true) rfl (by rfl) ?_⟩)
    rw [crs_is (by rw [hd]; dsimp only; omega), hd]
    dsimp only
    rw [hO, hN, hZ]
    have hq : crsB l O N z f t r k = true := hcb.2 (by omega)
    exact ⟨by rw [any_hit hko hq], H.pi [3] 4⟩
   have hk2 : N.length ≤ k + z := by omega
   have hcb := crsB_iff (l := l) (O := O) (N := N) (z := z) (f := f) (t := t) (r := r) (k := k)
   rw [ho'] at hcb
   refine ⟨BB.yd ?_⟩
   refine Cn.yes ?_
   refine ⟨⟨RgX.cut (id := 10) (ι := Bool) [(33, 61)] (by kernel_rfl) (fun u1 => [(61, .bool u1)]) (fun u1 w => u1 = false ∧ SL w (Slc 3 1 (.slice (some ⟨ob, 0, none⟩) O.length oc) O.length (nats O) :: Slc 3 1 (.slice na N.length nc) N.length (nats N) :: row b3 #[.int .i64 ↑f, .int .i64 ↑t, .int .i64 ↑r] 36 :: A :: F)) ?_ ?_⟩⟩
   ·refine ⟨Drw.oft (.calm 0 (.calm 1 (.calm 2 (.calm 3 (.calm 4 (.calm 5 (.calm 6 (.calm 7 (.calm 8 (.calm 9 (.calm 10 (.calm 11 (.calm 12 (.calm 13 (.calm 14 (.calm 16 (.calm 17 (.act 15 false (.act 18 true (.pure 19 (.pure 20 (.pure 21 (.pure 22 (.pure 23 (.pure 25 (.two 24 true (.act 26 true (.act 27 true (.pure 28 .nil))) 26 true (.act 24 true (.act 27 true (.pure 28 .nil))))))))))))))))))))))))))))) (by kernel_rfl) mixed (fun w => SL w _) H.drew ?_⟩
    replace H := H.drew
    refine LdC.i 2 rfl (v := .int .i64 ↑r) rfl (BB.vr fun q25 e25 => ?_)
    cases q25
    ·have h25 := neq_of e25
     refine ⟨?_, ?_⟩
     ·exact ⟨false, ⟨rfl, trivial⟩, rfl, H⟩
     exact ⟨false, ⟨rfl, trivial⟩, rfl, H⟩
    have h25 := eq_of_beq e25
    refine BB.nd ?_
    refine ⟨?_, ?_⟩
    ·exact ⟨false, ⟨rfl, trivial⟩, rfl, H⟩
    exact ⟨false, ⟨rfl, trivial⟩, rfl, H⟩
   rintro u1 s w ⟨hu1, H⟩
   subst hu1
   refine Cn.no (⟨IW.z ((k : Int) + (z : Int)) ?_⟩)
   refine RgX.cut (id := 13) (ι := Bool) [(65, 106)] (by kernel_rfl) (fun u2 => [(106, .bool u2)]) (fun u2 w => u2 = false ∧ SL w (Slc 3 1 (.slice (some ⟨ob, 0, none⟩) O.length oc) O.length (nats O) :: Slc 3 1 (.slice na N.length nc) N.length (nats N) :: row b3 #[.int .i64 ↑f, .int .i64 ↑t, .int .i64 ↑r] 36 :: A :: F)) ?_ ?_
   ·refine ⟨Drw.oft (.calm 0 (.calm 1 (.calm 2 (.calm 3 (.calm 4 (.calm 5 (.calm 6 (.calm 7 (.calm 8 (.calm 9 (.calm 11 (.calm 12 (.act 10 false (.act 13 true (.pure 14 (.pure 15 (.pure 16 (.pure 17 (.pure 18 (.pure 20 (.two 19 true (.act 21 true (.act 22 true (.pure 23 (.pure 24 (.pure 25 (.act 26 true (.act 27 true (.pure 28 (.pure 29 (.act 30 true (.pure 31 (.pure 32 (.pure 33 (.act 34 true (.act 35 true (.pure 36 (.pure 37 (.act 38 true (.pure 39 (.pure 40 (.pure 41 .nil))))))))))))))))))))) 21 true (.act 19 true (.act 22 true (.pure 23 (.pure 24 (.pure 25 (.act 26 true (.act 27 true (.pure 28 (.pure 29 (.act 30 true (.pure 31 (.pure 32 (.pure 33 (.act 34 true (.act 35 true (.pure 36 (.pure 37 (.act 38 true (.pure 39 (.pure 40 (.pure 41 .nil)))))))))))))))))))))))))))))))))))))))))) (by kernel_rfl) mixed (fun w => SL w _) H.drew ?_⟩
    replace H := H.drew
    refine BB.nd ?_
    refine ⟨?_, ?_⟩
    ·exact ⟨false, ⟨rfl, trivial⟩, rfl, H⟩
    exact ⟨false, ⟨rfl, trivial⟩, rfl, H⟩
   rintro u2 s w ⟨hu2, H⟩
   subst hu2
   refine Cn.no (⟨IW.i k ?_⟩)
   have hq : crsB l O N z f t r k = false := Bool.eq_false_iff.2 fun hh => by have := hcb.1 hh; omega
   exact ⟨k + 1, ⟨rfl, trivial⟩, ⟨⟨by omega, any_step hB hq⟩, H⟩, (show O.length - (k + 1) < O.length - k by omega)⟩
  have hob : k = O.length := by omega
  obtain rfl := hob
  refine ⟨BB.nd ?_⟩
  refine Cn.no (⟨ret1 (.bool false) rfl (by rfl) ?_⟩)
  rw [crs_is (by rw [hd]; dsimp only; omega), hd]
  dsimp only
  rw [hO, hN, hZ]
  exact ⟨by rw [hB], H.pi [3] 4⟩
 have h1 := of_decide_eq_true e1
 refine Cn.yes (⟨ret1 (.bool false) rfl (by rfl) ?_⟩)
 have hq : crsF l f t r = false := by unfold crsF; rw [hd]; dsimp only; rw [if_pos (by omega)]
 exact ⟨by rw [hq], H.pi [1] 2⟩
set_option maxHeartbeats 4000000 in
theorem f_is {w : World} {F : List Piece} {A : Piece} {lb lo lc : Nat} {l : List Ev} (hA : EvA A lb lo l) (hR : RtL l) {f t r : Nat} (hf : f < t) (ht : t < l.length) (hr6 : r ≤ 6) (hll : l.length ≤ 2000) (H : SL w (A :: F)) : Calls Tryz.prog 42 #[.slice (some ⟨lb, lo, none⟩) l.length lc, .agg #[.int .i64 ↑f, .int .i64 ↑t, .int .i64 ↑r]] w fun o w' => o = .returned (.bool (isF l f t r)) ∧ SL w' (A :: F) := by
 obtain ⟨⟨kind, g, chan, case_, value, mate, send, ok⟩, he⟩ : ∃ x, l[f]? = some x := ⟨_, get_of (by omega)⟩
 have hd : l.getD f evz = ⟨kind, g, chan, case_, value, mate, send, ok⟩ := by rw [List.getD_eq_getElem?_getD, he]; rfl
 obtain ⟨⟨ykind, yg, ychan, ycase_, yvalue, ymate, ysend, yok⟩, hy⟩ : ∃ x, l[t]? = some x := ⟨_, get_of ht⟩
 have hdy : l.getD t evz = ⟨ykind, yg, ychan, ycase_, yvalue, ymate, ysend, yok⟩ := by rw [List.getD_eq_getElem?_getD, hy]; rfl
 refine calls_d (args := [_, _]) Tryz.func42 rfl ?_
 refine ⟨Nw.as #[.int .i64 ↑f, .int .i64 ↑t, .int .i64 ↑r] 36 rfl H fun b3 w H => ?_⟩
 refine ⟨H.ldi 0 rfl (v := .int .i64 ↑f) rfl ?_⟩
 refine Ix.at f 8 (by kernel_rfl) (rfl) (by omega) ?_
 refine H.ldEv 1 rfl hA f he (Nw.as ev0C 53 rfl H fun b5 w H => ?_)
 refine SL.stEv H rfl rfl fun w H => ?_
 refine ⟨H.ldi 1 rfl (v := .int .i64 ↑t) rfl ?_⟩
 refine Ix.at t 8 (by kernel_rfl) (rfl) (by omega) ?_
 refine H.ldEv 2 rfl hA t hy (Nw.as ev0C 53 rfl H fun b6 w H => ?_)
 refine SL.stEv H rfl rfl fun w H => ?_
 refine ⟨H.ldi 1 rfl (v := .int .i64 kind) rfl ?_⟩
 refine BB.vr fun q1 e1 => ?_
 cases q1
 ·have h1 := neq_of e1
  refine H.ldi 0 rfl (v := .int .i64 ykind) rfl (BB.vr fun q2 e2 => ?_)
  cases q2
  ·have h2 := neq_of e2
   refine Cn.no (⟨H.ldi 2 rfl (v := .int .i64 ↑r) rfl ?_⟩)
   refine ⟨⟨BB.vr fun q3 e3 => ?_⟩⟩
   cases q3
   ·have h3 := neq_of e3
    refine Cn.no (⟨BB.vr fun q4 e4 => ?_⟩)
    cases q4
    ·have h4 := neq_of e4
     refine Cn.no (⟨BB.vr fun q5 e5 => ?_⟩)
     cases q5
     ·have h5 := neq_of e5
      refine Cn.no (⟨H.ldi 2 rfl (v := .int .i64 ↑f) rfl ?_⟩)
      refine H.ldi 2 rfl (v := .int .i64 ↑t) rfl (H.ldi 2 rfl (v := .int .i64 ↑r) rfl ?_)
      have h1 := H.pi [3, 0, 1, 2] 4
      simp only [pl, nth, drL] at h1
      refine Cl.s (f_crosses (lc := lc) hA hR hf ht hr6 hll h1) fun w H => ?_
      replace H := H.pi [1, 2, 3, 0] 4
      simp only [pl, nth, drL] at H
      refine BB.k (ret1 (.bool (crsF l f t r)) rfl (by rfl) ?_)
      have hq : isF l f t r = ((crsF l f t r)) := by
       unfold isF
       rw [hd, hdy]
       dsimp only
       rw [if_neg (by omega)]
       rw [if_neg (by omega)]
       rw [if_neg (by omega)]
       rw [if_neg (by omega)]
      exact ⟨by rw [hq], H.pi [3] 4⟩
     have h5 := eq_of_beq e5
     refine Cn.yes (⟨H.ldi 1 rfl (v := .int .i64 kind) rfl ?_⟩)
     refine BB.vr fun q6 e6 => ?_
     cases q6
     ·have h6 := neq_of e6
      refine ret1 (.bool false) rfl (by rfl) ?_
      have hq : isF l f t r = (false) := by
       unfold isF
       rw [hd, hdy]
       dsimp only
       rw [if_neg (by omega)]
       rw [if_neg (by omega)]
       rw [if_neg (by omega)]
       rw [if_pos (by omega)]
       rw [show (kind == 5) = false from beq_eq_false_iff_ne.2 (by omega)]
       first | rw [show yok = true by assumption] | rw [show yok = false by assumption] | skip
       simp only [Bool.true_and, Bool.and_true, Bool.false_and, Bool.and_false, Bool.true_or, Bool.or_true, Bool.not_true, Bool.not_false, Bool.or_false, Bool.false_or]
      exact ⟨by rw [hq], H.pi [3] 4⟩
     have h6 := eq_of_beq e6
     refine H.ldi 0 rfl (v := .int .i64 ykind) rfl (BB.vr fun q7 e7 => ?_)
     cases q7
     ·have h7 := neq_of e7
      refine H.ldi 0 rfl (v := .int .i64 ykind) rfl (BB.vr fun q8 e8 => ?_)
      cases q8
      ·have h8 := neq_of e8
       refine ret1 (.bool false) rfl (by rfl) ?_
       have hq : isF l f t r = (false) := by
        unfold isF
        rw [hd, hdy]
        dsimp only
        rw [if_neg (by omega)]
        rw [if_neg (by omega)]
        rw [if_neg (by omega)]
        rw [if_pos (by omega)]
        rw [show (kind == 5) = true from beq_iff_eq.2 (by omega)]
        rw [show (ykind == 4) = false from beq_eq_false_iff_ne.2 (by omega)]
        rw [show (ykind == 7) = false from beq_eq_false_iff_ne.2 (by omega)]
        first | rw [show yok = true by assumption] | rw [show yok = false by assumption] | skip
        simp only [Bool.true_and, Bool.and_true, Bool.false_and, Bool.and_false, Bool.true_or, Bool.or_true, Bool.not_true, Bool.not_false, Bool.or_false, Bool.false_or]
       exact ⟨by rw [hq], H.pi [3] 4⟩
      have h8 := eq_of_beq e8
      refine H.ldi 0 rfl (v := .bool yok) rfl (BB.k (BB.vr fun q9 e9 => ?_))
      cases q9
      ·have h9 : yok = true := by simpa using e9
       refine ret1 (.bool false) rfl (by rfl) ?_
       have hq : isF l f t r = (false) := by
        unfold isF
        rw [hd, hdy]
        dsimp only
        rw [if_neg (by omega)]
        rw [if_neg (by omega)]
        rw [if_neg (by omega)]
        rw [if_pos (by omega)]
        rw [show (kind == 5) = true from beq_iff_eq.2 (by omega)]
        rw [show (ykind == 4) = false from beq_eq_false_iff_ne.2 (by omega)]
        rw [show (ykind == 7) = true from beq_iff_eq.2 (by omega)]
        first | rw [show yok = true by assumption] | rw [show yok = false by assumption] | skip
        simp only [Bool.true_and, Bool.and_true, Bool.false_and, Bool.and_false, Bool.true_or, Bool.or_true, Bool.not_true, Bool.not_false, Bool.or_false, Bool.false_or]
       exact ⟨by rw [hq], H.pi [3] 4⟩
      have h9 : yok = false := by simpa using e9
      refine H.ldi 0 rfl (v := .int .i64 ychan) rfl (H.ldi 1 rfl (v := .int .i64 chan) rfl (BB.k (ret1 (.bool (ychan == chan)) rfl (by rfl) ?_)))
      have hq : isF l f t r = (ychan == chan) := by
       unfold isF
       rw [hd, hdy]
       dsimp only
       rw [if_neg (by omega)]
       rw [if_neg (by omega)]
       rw [if_neg (by omega)]
       rw [if_pos (by omega)]
       rw [show (kind == 5) = true from beq_iff_eq.2 (by omega)]
       rw [show (ykind == 4) = false from beq_eq_false_iff_ne.2 (by omega)]
       rw [show (ykind == 7) = true from beq_iff_eq.2 (by omega)]
       first | rw [show yok = true by assumption] | rw [show yok = false by assumption] | skip
       simp only [Bool.true_and, Bool.and_true, Bool.false_and, Bool.and_false, Bool.true_or, Bool.or_true, Bool.not_true, Bool.not_false, Bool.or_false, Bool.false_or]
      exact ⟨by rw [hq], H.pi [3] 4⟩
     have h7 := eq_of_beq e7
     refine H.ldi 0 rfl (v := .bool yok) rfl (BB.k (BB.vr fun q10 e10 => ?_))
     cases q10
     ·have h10 : yok = true := by simpa using e10
      refine ret1 (.bool false) rfl (by rfl) ?_
      have hq : isF l f t r = (false) := by
       unfold isF
       rw [hd, hdy]
       dsimp only
       rw [if_neg (by omega)]
       rw [if_neg (by omega)]
       rw [if_neg (by omega)]
       rw [if_pos (by omega)]
       rw [show (kind == 5) = true from beq_iff_eq.2 (by omega)]
       rw [show (ykind == 4) = true from beq_iff_eq.2 (by omega)]
       first | rw [show yok = true by assumption] | rw [show yok = false by assumption] | skip
       simp only [Bool.true_and, Bool.and_true, Bool.false_and, Bool.and_false, Bool.true_or, Bool.or_true, Bool.not_true, Bool.not_false, Bool.or_false, Bool.false_or]
      exact ⟨by rw [hq], H.pi [3] 4⟩
     have h10 : yok = false := by simpa using e10
     refine H.ldi 0 rfl (v := .int .i64 ychan) rfl (H.ldi 1 rfl (v := .int .i64 chan) rfl (BB.k (ret1 (.bool (ychan == chan)) rfl (by rfl) ?_)))
     have hq : isF l f t r = (ychan == chan) := by
      unfold isF
      rw [hd, hdy]
      dsimp only
      rw [if_neg (by omega)]
      rw [if_neg (by omega)]
      rw [if_neg (by omega)]
      rw [if_pos (by omega)]
      rw [show (kind == 5) = true from beq_iff_eq.2 (by omega)]
      rw [show (ykind == 4) = true from beq_iff_eq.2 (by omega)]
      first | rw [show yok = true by assumption] | rw [show yok = false by assumption] | skip
      simp only [Bool.true_and, Bool.and_true, Bool.false_and, Bool.and_false, Bool.true_or, Bool.or_true, Bool.not_true, Bool.not_false, Bool.or_false, Bool.false_or]
     exact ⟨by rw [hq], H.pi [3] 4⟩
    have h4 := eq_of_beq e4
    refine Cn.yes (⟨H.ldi 1 rfl (v := .int .i64 kind) rfl ?_⟩)
    refine BB.vr fun q11 e11 => ?_
    cases q11
    ·have h11 := neq_of e11
     refine ret1 (.bool false) rfl (by rfl) ?_
     have hq : isF l f t r = (false) := by
      unfold isF
      rw [hd, hdy]
      dsimp only
      rw [if_neg (by omega)]
      rw [if_neg (by omega)]
      rw [if_pos (by omega)]
      rw [show (kind == 1) = false from beq_eq_false_iff_ne.2 (by omega)]
      simp only [Bool.true_and, Bool.and_true, Bool.false_and, Bool.and_false, Bool.true_or, Bool.or_true, Bool.not_true, Bool.not_false, Bool.or_false, Bool.false_or]
     exact ⟨by rw [hq], H.pi [3] 4⟩
    have h11 := eq_of_beq e11
    refine H.ldi 1 rfl (v := .int .i64 mate) rfl (H.ldi 0 rfl (v := .int .i64 yg) rfl (BB.vr fun q12 e12 => ?_))
    cases q12
    ·have h12 := neq_of e12
     refine ret1 (.bool false) rfl (by rfl) ?_
     have hq : isF l f t r = (false) := by
      unfold isF
      rw [hd, hdy]
      dsimp only
      rw [if_neg (by omega)]
      rw [if_neg (by omega)]
      rw [if_pos (by omega)]
      rw [show (kind == 1) = true from beq_iff_eq.2 (by omega)]
      rw [show (mate == yg) = false from beq_eq_false_iff_ne.2 (by omega)]
      simp only [Bool.true_and, Bool.and_true, Bool.false_and, Bool.and_false, Bool.true_or, Bool.or_true, Bool.not_true, Bool.not_false, Bool.or_false, Bool.false_or]
     exact ⟨by rw [hq], H.pi [3] 4⟩
    have h12 := eq_of_beq e12
    refine H.ldi 2 rfl (v := .int .i64 ↑f) rfl (H.ldi 2 rfl (v := .int .i64 ↑t) rfl (H.ldi 2 rfl (v := .int .i64 ↑r) rfl (H.ldi 0 rfl (v := .int .i64 yg) rfl ?_)))
    have h1 := H.pi [3, 0, 1, 2] 4
    simp only [pl, nth, drL] at h1
    refine Cl.s (f_between (g := yg) (lc := lc) hA hf ht hll h1) fun w H => ?_
    replace H := H.pi [1, 2, 3, 0] 4
    simp only [pl, nth, drL] at H
    refine BB.k (BB.k (ret1 (.bool (!(btwF l f t yg))) rfl (by rfl) ?_))
    have hq : isF l f t r = (!(btwF l f t yg)) := by
     unfold isF
     rw [hd, hdy]
     dsimp only
     rw [if_neg (by omega)]
     rw [if_neg (by omega)]
     rw [if_pos (by omega)]
     rw [show (kind == 1) = true from beq_iff_eq.2 (by omega)]
     rw [show (mate == yg) = true from beq_iff_eq.2 (by omega)]
     simp only [Bool.true_and, Bool.and_true, Bool.false_and, Bool.and_false, Bool.true_or, Bool.or_true, Bool.not_true, Bool.not_false, Bool.or_false, Bool.false_or]
    exact ⟨by rw [hq], H.pi [3] 4⟩
   have h3 := eq_of_beq e3
   refine Cn.yes (⟨H.ldi 1 rfl (v := .int .i64 g) rfl ?_⟩)
   refine H.ldi 0 rfl (v := .int .i64 yg) rfl (BB.vr fun q13 e13 => ?_)
   cases q13
   ·have h13 := neq_of e13
    refine ret1 (.bool false) rfl (by rfl) ?_
    have hq : isF l f t r = (false) := by
     unfold isF
     rw [hd, hdy]
     dsimp only
     rw [if_neg (by omega)]
     rw [if_pos (by omega)]
     rw [show (g == yg) = false from beq_eq_false_iff_ne.2 (by omega)]
     simp only [Bool.true_and, Bool.and_true, Bool.false_and, Bool.and_false, Bool.true_or, Bool.or_true, Bool.not_true, Bool.not_false, Bool.or_false, Bool.false_or]
    exact ⟨by rw [hq], H.pi [3] 4⟩
   have h13 := eq_of_beq e13
   refine H.ldi 2 rfl (v := .int .i64 ↑f) rfl (H.ldi 2 rfl (v := .int .i64 ↑t) rfl (H.ldi 2 rfl (v := .int .i64 ↑r) rfl (H.ldi 0 rfl (v := .int .i64 yg) rfl ?_)))
   have h1 := H.pi [3, 0, 1, 2] 4
   simp only [pl, nth, drL] at h1
   refine Cl.s (f_between (g := yg) (lc := lc) hA hf ht hll h1) fun w H => ?_
   replace H := H.pi [1, 2, 3, 0] 4
   simp only [pl, nth, drL] at H
   refine BB.k (BB.k (ret1 (.bool (!(btwF l f t yg))) rfl (by rfl) ?_))
   have hq : isF l f t r = (!(btwF l f t yg)) := by
    unfold isF
    rw [hd, hdy]
    dsimp only
    rw [if_neg (by omega)]
    rw [if_pos (by omega)]
    rw [show (g == yg) = true from beq_iff_eq.2 (by omega)]
    simp only [Bool.true_and, Bool.and_true, Bool.false_and, Bool.and_false, Bool.true_or, Bool.or_true, Bool.not_true, Bool.not_false, Bool.or_false, Bool.false_or]
   exact ⟨by rw [hq], H.pi [3] 4⟩
  have h2 := eq_of_beq e2
  refine Cn.yes (⟨ret1 (.bool false) rfl (by rfl) ?_⟩)
  have hq : isF l f t r = (false) := by
   unfold isF
   rw [hd, hdy]
   dsimp only
   rw [if_pos (by omega)]
  exact ⟨by rw [hq], H.pi [3] 4⟩
 have h1 := eq_of_beq e1
 refine Cn.yes (⟨ret1 (.bool false) rfl (by rfl) ?_⟩)
 have hq : isF l f t r = (false) := by
  unfold isF
  rw [hd, hdy]
  dsimp only
  rw [if_pos (by omega)]
 exact ⟨by rw [hq], H.pi [3] 4⟩
end Go.Proofs.YtoamjodmidbmbaaGreatDoor
namespace Go.Proofs.YtoamjodmidbmbaaGreatDoor
open Go.RowKit
section
variable {P : Program} {w : World} {F : List Piece} {σ : Fr} {te sz g n c : Nat} {xs : List Value}
end
section
variable {P : Program} {w : World} {F : List Piece} {σ : Fr} {te sz g n c : Nat} {xs : List Value}
theorem Mn.cutK {op : Oper} {K : Value → World → Prop} (H : SL w (Slc te sz (.slice (some ⟨g, 0, none⟩) n c) n xs :: F)) (x l : Operand) (t : Nat) (hop : op.op = .slice t x (some l) none none) (ht : P.underlying t = some (.slice te)) (hsz : (P.info? te).map (·.size) = some sz)
  (lo : Nat) (hx : ev σ x = .slice (some ⟨g, 0, none⟩) n c) (hl : ev σ l = .int .i64 (lo : Int)) (hlo : lo < n) (k : K (.slice (some ⟨g, lo * sz, none⟩) (n - lo) (c - lo)) w) : Mn P σ op w K := by
 obtain ⟨S, _, h2, _⟩ := H.on
 rcases h2.2 with ⟨h, h0⟩ | ⟨g', cap, cur, h, _, hg, hnc, _⟩
 ·omega
 ·injection h with _ _ e
  subst e
  refine Mn.by (run_cut x l hop ht hsz (Nat.le_of_lt hlo) hnc hx hl w) ?_
  rw [if_neg (show c ≠ lo by omega)]
  simpa only [Option.map_some, Addr_add, Nat.zero_add] using k
end
end Go.Proofs.YtoamjodmidbmbaaGreatDoor
namespace Go.Proofs.YtoamjodmidbmbaaGreatDoor
open Go.RowKit
set_option maxRecDepth 100000
section
variable {L M : List Edg} {i j k : Nat} {z : Edg} {p : Edg → Bool}
theorem edg_at (h : L[j]? = some z) (c : Nat) (hc : c < 3) : (L.flatMap Edg.cells)[j * 3 + c]? = z.cells[c]? := by
 induction L generalizing j with
 | nil => cases h
 | cons x L ih =>
  rw [List.flatMap_cons]
  cases j with
  | zero =>
   injection h with h
   subst h
   rw [List.getElem?_append_left (by show 0 * 3 + c < 3; omega), Nat.zero_mul, Nat.zero_add]
  | succ j =>
   rw [List.getElem?_append_right (by show 3 ≤ _; omega), show (j + 1) * 3 + c - (Edg.cells x).length = j * 3 + c by show (j + 1) * 3 + c - 3 = _; omega]
   exact ih h
end
theorem SL.slcCapE {w : World} {F : List Piece} {te sz n c : Nat} {a : Option Addr} {xs : List Value} (H : SL w (Slc te sz (.slice a n c) n xs :: F)) : n ≤ c := by
 obtain ⟨S, _, ⟨_, h⟩, _⟩ := H.on
 rcases h with ⟨h, rfl⟩ | ⟨g, cap, cur, h, _, _, h2, _⟩
 ·exact Nat.zero_le _
 ·injection h with _ _ e
  subst e
  exact h2
theorem all_le {l : List Ev} (hr : rightF l = true) (hll : l.length ≤ 2000) : (allE l).length ≤ 100000000 := by
 obtain ⟨z1, z2, z3, z4⟩ := read_size (right_iff.1 hr) (Nat.le_refl l.length)
 have h := crossA_len (es := (readE l l.length).edges) (B := 2000) (fun c hc => by have := (z4 c hc).2.1; omega) (readE l l.length).chans.length (Nat.le_refl _)
 have e : (allE l).length = (rawE l).length := all_perm.length_eq
 rw [e]
 unfold rawE
 have hq : 2 * 2000 * (readE l l.length).chans.length ≤ 2 * 2000 * 2000 := Nat.mul_le_mul_left _ (by omega)
 omega
def hop (k a b : Int) : OpX := ⟨⟨k, a, b, [], false⟩, none, 0⟩
section
variable {b7 b9 b10 b11 : Nat}
theorem row_on {S : Nat → Prop} {w : World} {b t : Nat} {cs : Array Value} (h : (row b cs t).on S w) {o : Nat} {v : Value} (hv : cs[o]? = some v) : w.cell? ⟨b, o, none⟩ = some v := row_cell h.2 o hv
theorem rd_none {w : World} {sz : Nat} : Rd w sz none 0 [] := ⟨by simp, Nat.zero_le _, fun h => absurd h (Nat.lt_irrefl 0)⟩
end
theorem EvA.fst5 {R O : Piece} {b off : Nat} {l : List Ev} (h : EvA R b off l) : EvA (all [R, O]) b off l :=
 ⟨fun S w hS => by
  obtain ⟨T, _, h2, _⟩ := (hS : SLs w S [R, O])
  exact h.at_ T w h2⟩
theorem SpansA.snd5 {R O : Piece} (h : SpansA O) : SpansA (all [R, O]) := fun w H => h w ((SL.all (L := [R, O])).1 H).tl
end Go.Proofs.YtoamjodmidbmbaaGreatDoor
