/- Texts of the proof, several in one file: EdgeI. -/
import Derived.Test.YtoamjodmidbmbaaGreatDoorE18
import Derived.Test.YtoamjodmidbmbaaGreatDoorE15
import Derived.Test.YtoamjodmidbmbaaGreatDoorE19
set_option linter.unusedVariables false
set_option linter.unusedSimpArgs false
namespace Go.Proofs.YtoamjodmidbmbaaGreatDoor
open Go.RowKit
set_option maxRecDepth 100000
theorem f_right {w : World} {F : List Piece} {A : Piece} {lb lo lc : Nat} {l : List Ev} (hA : EvA A lb lo l) (hlc : l.length ≤ lc) (h0 : 0 < l.length) (hll : l.length ≤ 2000) (H : SL w (A :: F)) : Calls Tryz.prog 14 #[.slice (some ⟨lb, lo, none⟩) l.length lc] w fun o w' => o = .returned (.bool (rightF l)) ∧ SL w' (A :: F) := by
 refine calls_den (args := [_]) Tryz.func14 rfl (Nat.le_of_ble_eq_true (by kernel_rfl)) (by kernel_rfl) ?_
 refine ⟨⟨?_⟩⟩
 have K := r_check14 hA hlc h0 hll H
 rw [← check_same] at K
 refine Cl.sl (by kernel_rfl) K fun w H => ?_
 refine Nw.as #[.int .i64 0, .int .i64 0] 83 rfl H fun b3 w H => ?_
 refine H.st0 (cs' := #[.int .i64 ((checkG l).1), .int .i64 0]) rfl rfl rfl fun w H => ?_
 refine H.st0 (cs' := #[.int .i64 ((checkG l).1), .int .i64 (↑(checkG l).2)]) rfl rfl rfl fun w H => ?_
 refine ⟨H.ldi 0 rfl (v := .int .i64 ((checkG l).1)) rfl ?_⟩
 refine BB.vr fun q1 e1 => ?_
 cases q1
 ·have h1 := beq_eq_false_iff_ne.1 e1
  refine H.ldi 0 rfl (v := .int .i64 ((checkG l).1)) rfl (BB.vr fun q2 e2 => ?_)
  cases q2
  ·have h2 := beq_eq_false_iff_ne.1 e2
   refine ret1 (.bool false) rfl (by rfl) ?_
   have hq : rightF l = false := by
    unfold rightF
    rw [beq_eq_false_iff_ne.2 h1, beq_eq_false_iff_ne.2 h2]
    first | done | rfl
   rw [hq]
   exact ⟨rfl, H.pick [1] 2 (by decide)⟩
  have h2 := eq_of_beq e2
  refine H.ldi 0 rfl (v := .int .i64 (↑(checkG l).2)) rfl (BB.vr fun q3 e3 => ?_)
  refine ret1 (.bool q3) rfl (by rfl) ?_
  have hq : rightF l = q3 := by
   unfold rightF
   rw [beq_eq_false_iff_ne.2 h1, beq_iff_eq.2 h2]
   rw [← e3]
   show ((checkG l).2 == l.length) = _
   exact Bool.eq_iff_iff.2 (by rw [beq_iff_eq, beq_iff_eq]; omega)
  rw [hq]
  exact ⟨rfl, H.pick [1] 2 (by decide)⟩
 have h1 := eq_of_beq e1
 refine ret1 (.bool true) rfl (by rfl) ?_
 have hq : rightF l = true := by
  unfold rightF
  rw [beq_iff_eq.2 h1]
  first | done | rfl
 rw [hq]
 exact ⟨rfl, H.pick [1] 2 (by decide)⟩
section
variable {l : List Ev} {g c : Int} {d j i f k t r : Nat} {e : Ev} {s : Bool}
theorem down (i : Nat) : (i : Int) - 1 = -1 ∨ ∃ j : Nat, (i : Int) - 1 = j ∧ j < i := by
 rcases Nat.eq_zero_or_pos i with rfl | h
 ·exact .inl rfl
 ·exact .inr ⟨i - 1, by omega, by omega⟩
theorem begK_yes (hd : l.getD j evz = e) (h : e.kind = 6 ∧ e.g = g) : begK l g d (j + 1) = j := by
 rw [begK, hd, if_pos h]
theorem begK_no (hd : l.getD j evz = e) (h : ¬ (e.kind = 6 ∧ e.g = g)) : begK l g d (j + 1) = begK l g d j := by
 rw [begK, hd, if_neg h]
/-- What a channel's make says. -/
def szI (c : Int) : List Ev → Int
 | [] => 0
 | e :: r => if e.kind = 2 ∧ e.chan = c then e.value else szI c r
theorem szI_step (he : l[i]? = some e) : szI c (l.drop i) = if e.kind = 2 ∧ e.chan = c then e.value else szI c (l.drop (i + 1)) := by
 obtain ⟨hi, rfl⟩ := List.getElem?_eq_some_iff.1 he
 rw [List.drop_eq_getElem_cons hi, szI]
theorem szI_is (h : ∀ e ∈ l, e.kind = 2 → 0 ≤ e.value) : szI c l = (sizeF l c : Int) := by
 unfold sizeF
 induction l with
 | nil => rfl
 | cons e r ih =>
  rw [szI, List.find?_cons]
  by_cases hk : e.kind = 2 ∧ e.chan = c
  ·rw [if_pos hk, show (e.kind == 2 && e.chan == c) = true by simp [hk.1, hk.2]]
   have := h e List.mem_cons_self hk.1
   dsimp only
   omega
  ·rw [if_neg hk, show (e.kind == 2 && e.chan == c) = false by rw [Bool.eq_false_iff]; intro hh; simp at hh; exact hk hh]
   exact ih fun e he => h e (List.mem_cons_of_mem _ he)
theorem szI_rt (h : RtL l) : szI c l = (sizeF l c : Int) := szI_is fun e he hk => by
 obtain ⟨i, hi, rfl⟩ := List.getElem_of_mem he
 have hd : l.getD i evz = l[i] := by rw [List.getD_eq_getElem?_getD, List.getElem?_eq_getElem hi]; rfl
 have hrt := (h.parts hi).1
 rw [hd] at hrt
 have := hrt.v2 hk
 omega
/-- Numbers as cells. -/
def nats (L : List Nat) : List Value := L.map (fun (n : Nat) => Value.int .i64 (n : Int))
theorem nats_at {L : List Nat} {d : Nat} (h : L[k]? = some d) : (nats L)[k * 1]? = some (.int .i64 (d : Int)) := by
 unfold nats
 rw [Nat.mul_one, List.getElem?_map, h]
 rfl
theorem nats_app {L : List Nat} {d : Nat} : nats (L ++ [d]) = nats L ++ [.int .i64 (d : Int)] := by
 unfold nats
 rw [List.map_append]
 rfl
theorem nats_app1 {L : List Nat} {i : Nat} : nats (L ++ [i + 1]) = nats L ++ [.int .i64 ((i : Int) + 1)] := nats_app
theorem done_lt : ∀ {i}, i ≤ l.length → ∀ d ∈ doneU l c s i, d < l.length
 | 0, _, d, h => by cases h
 | i + 1, hi, d, h => by
  rw [doneU, List.mem_append] at h
  rcases h with h | h
  ·exact done_lt (by omega) d h
  ·unfold doneO at h
   split at h
   ·cases h
   ·split at h
    ·rw [List.mem_singleton] at h
     omega
    ·split at h
     ·rw [List.mem_singleton] at h
      omega
     ·cases h
theorem done_len_le : ∀ {i}, (doneU l c s i).length ≤ i
 | 0 => Nat.le_refl _
 | i + 1 => by
  rw [doneU, List.length_append]
  have h1 : (doneO l c s i).length ≤ 1 := by
   unfold doneO
   split
   ·exact Nat.zero_le _
   ·split
    ·exact Nat.le_refl _
    ·split
     ·exact Nat.le_refl _
     ·exact Nat.zero_le _
  have := done_len_le (i := i)
  omega
end
theorem f_begins {w : World} {F : List Piece} {A : Piece} {lb lo lc : Nat} {l : List Ev} (hA : EvA A lb lo l) {i : Nat} (hi : i < l.length) (hll : l.length ≤ 2000) (H : SL w (A :: F)) : Calls Tryz.prog 19 #[.slice (some ⟨lb, lo, none⟩) l.length lc, .int .i64 (i : Int)] w fun o w' => o = .returned (.int .i64 (begF l i : Int)) ∧ SL w' (A :: F) := by
 obtain ⟨⟨kind, g, chan, case_, value, mate, send, ok⟩, he⟩ : ∃ x, l[i]? = some x := ⟨_, List.getElem?_eq_getElem hi⟩
 have hd : l.getD i evz = ⟨kind, g, chan, case_, value, mate, send, ok⟩ := by rw [List.getD_eq_getElem?_getD, he]; rfl
 refine calls_den (args := [_, _]) Tryz.func19 rfl (Nat.le_of_ble_eq_true (by kernel_rfl)) (by kernel_rfl) ?_
 refine ⟨⟨Ix.at i 8 (by kernel_rfl) (rfl) (by omega) ?_⟩⟩
 refine H.ldE 0 rfl hA i 0 he (v := .int .i64 kind) rfl (BB.vr fun q1 e1 => ?_)
 cases q1
 ·have h1 := bne_eq_false_iff_eq.1 e1
  refine Cn.no (⟨IW.by (wrap_id (n := ↑i - 1) (by omega) (by omega)) ?_⟩)
  refine ⟨den.loop (ι := Int) [(4, 5), (15, 38)] (by kernel_rfl) (fun k => [(5, .int .i64 k)]) (fun k w => ((k = -1 ∨ ∃ j : Nat, k = j ∧ j < i) ∧ begK l g i (k + 1).toNat = begK l g i i) ∧ SL w (A :: F)) (fun k => (k + 1).toNat) (↑i - 1) ⟨rfl, trivial⟩ ⟨⟨down i, by rw [show ((i : Int) - 1 + 1).toNat = i by omega]⟩, (H)⟩ ?_⟩
  rintro k s w ⟨hc, H⟩
  obtain ⟨hk, hK⟩ := hc
  rcases hk with rfl | ⟨j, rfl, hj⟩
  ·refine ⟨BB.no rfl ?_⟩
   refine Cn.no (⟨ret1 (.int .i64 ↑i) rfl (by rfl) ?_⟩)
   have hb : begF l i = begK l g i i := by
    unfold begF
    rw [hd, if_neg (by dsimp only; omega)]
   exact ⟨by rw [hb, ← hK]; rfl, H⟩
  have hob : ∃ x, l[j]? = some x := ⟨_, List.getElem?_eq_getElem (by omega)⟩
  obtain ⟨⟨ykind, yg, ychan, ycase_, yvalue, ymate, ysend, yok⟩, hy⟩ := hob
  have hdy : l.getD j evz = ⟨ykind, yg, ychan, ycase_, yvalue, ymate, ysend, yok⟩ := by rw [List.getD_eq_getElem?_getD, hy]; rfl
  refine ⟨BB.yes (decide_eq_true (by omega)) ?_⟩
  refine Cn.yes (⟨⟨Drw.of [(0, true), (1, true), (2, true), (3, true), (4, true), (5, true), (6, true), (7, true), (8, true), (9, true), (10, true), (11, true), (12, true), (13, true), (14, true), (15, true), (16, true), (17, true), (18, true)] (by kernel_rfl) mixed (fun w => SL w _) H.drew ?_⟩⟩)
  replace H := H.drew
  refine Ix.at j 8 (by kernel_rfl) (rfl) (by omega) ?_
  refine LdC.E 0 rfl hA j 0 hy (v := .int .i64 ykind) rfl (BB.vr fun q2 e2 => ?_)
  cases q2
  ·have h2 := beq_eq_false_iff_ne.1 e2
   refine Cn.no (⟨IW.by (wrap_id (n := ↑j - 1) (by omega) (by omega)) ?_⟩)
   exact ⟨(↑j - 1), ⟨rfl, trivial⟩, ⟨⟨(down j).imp id (fun ⟨x, h1, h2⟩ => ⟨x, h1, by omega⟩), by rw [show ((j : Int) - 1 + 1).toNat = j by omega, ← hK, show ((j : Int) + 1).toNat = j + 1 by omega]; exact (begK_no hdy (by dsimp only; omega)).symm⟩, H⟩, (show ((j : Int) - 1 + 1).toNat < ((j : Int) + 1).toNat by omega)⟩
  have h2 := eq_of_beq e2
  refine Ix.at j 8 (by kernel_rfl) (rfl) (by omega) ?_
  refine LdC.E 0 rfl hA j 1 hy (v := .int .i64 yg) rfl (Ix.at i 8 (by kernel_rfl) (rfl) (by omega) ?_)
  refine LdC.E 0 rfl hA i 1 he (v := .int .i64 g) rfl (BB.vr fun q3 e3 => ?_)
  cases q3
  ·have h3 := beq_eq_false_iff_ne.1 e3
   refine Cn.no (⟨IW.by (wrap_id (n := ↑j - 1) (by omega) (by omega)) ?_⟩)
   exact ⟨(↑j - 1), ⟨rfl, trivial⟩, ⟨⟨(down j).imp id (fun ⟨x, h1, h2⟩ => ⟨x, h1, by omega⟩), by rw [show ((j : Int) - 1 + 1).toNat = j by omega, ← hK, show ((j : Int) + 1).toNat = j + 1 by omega]; exact (begK_no hdy (by dsimp only; omega)).symm⟩, H⟩, (show ((j : Int) - 1 + 1).toNat < ((j : Int) + 1).toNat by omega)⟩
  have h3 := eq_of_beq e3
  refine Cn.yes (⟨ret1 (.int .i64 ↑j) rfl (by rfl) ?_⟩)
  have hb : begF l i = begK l g i i := by
   unfold begF
   rw [hd, if_neg (by dsimp only; omega)]
  rw [show ((j : Int) + 1).toNat = j + 1 by omega, begK_yes hdy ⟨by dsimp only; omega, by dsimp only; omega⟩] at hK
  exact ⟨by rw [hb, ← hK], H⟩
 have h1 := bne_iff_ne.1 e1
 refine Cn.yes (⟨ret1 (.int .i64 ↑i) rfl (by rfl) ?_⟩)
 exact ⟨by rw [show begF l i = i from if_pos (by rw [hd]; dsimp only; omega)], H⟩
theorem f_size {w : World} {F : List Piece} {A : Piece} {lb lo lc : Nat} {l : List Ev} (hA : EvA A lb lo l) {c : Int} (hll : l.length ≤ 2000) (H : SL w (A :: F)) : Calls Tryz.prog 127 #[.slice (some ⟨lb, lo, none⟩) l.length lc, .int .i64 c] w fun o w' => o = .returned (.int .i64 (szI c l)) ∧ SL w' (A :: F) := by
 refine calls_den (args := [_, _]) Tryz.func127 rfl (Nat.le_of_ble_eq_true (by kernel_rfl)) (by kernel_rfl) ?_
 refine ⟨⟨⟨den.loop (ι := Nat) [(4, 4), (6, 6), (9, 24)] (by kernel_rfl) (fun i => [(9, .int .i64 ↑i)]) (fun i w => (i ≤ l.length ∧ szI c (l.drop i) = szI c l) ∧ SL w (A :: F)) (fun i => l.length - i) 0 ⟨rfl, trivial⟩ ⟨⟨Nat.zero_le _, rfl⟩, (H)⟩ ?_⟩⟩⟩
 rintro i s w ⟨hc, H⟩
 obtain ⟨hi0, hI⟩ := hc
 have hob := Nat.lt_or_ge i l.length
 rcases hob with hi | hi
 ·have hob : ∃ x, l[i]? = some x := ⟨_, List.getElem?_eq_getElem hi⟩
  obtain ⟨⟨kind, g, chan, case_, value, mate, send, ok⟩, he⟩ := hob
  have hd : l.getD i evz = ⟨kind, g, chan, case_, value, mate, send, ok⟩ := by rw [List.getD_eq_getElem?_getD, he]; rfl
  have hs := szI_step (c := c) he
  dsimp only at hs
  refine ⟨BB.yes (decide_eq_true (by omega)) ?_⟩
  refine Cn.yes (⟨⟨Ix.at i 8 (by kernel_rfl) (rfl) (hi) ?_⟩⟩)
  refine H.ldEv 0 rfl hA i he (Nw.as #[.int .i64 0, .int .i64 0, .int .i64 0, .int .i64 0, .int .i64 0, .int .i64 0, .bool false, .bool false] 53 rfl H fun b6 w H => ?_)
  refine SL.stEv H rfl rfl fun w H => ?_
  refine ⟨H.ldi 0 rfl (v := .int .i64 kind) rfl ?_⟩
  refine BB.vr fun q1 e1 => ?_
  cases q1
  ·have h1 := beq_eq_false_iff_ne.1 e1
   refine Cn.no (⟨IW.by (wrap_id (n := ↑i + 1) (by omega) (by omega)) ?_⟩)
   exact ⟨i + 1, ⟨rfl, trivial⟩, ⟨⟨by omega, by rw [← hI, hs, if_neg (by omega)]⟩, H.pick [1] 2 (by decide)⟩, (show l.length - (i + 1) < l.length - i by omega)⟩
  have h1 := eq_of_beq e1
  refine H.ldi 0 rfl (v := .int .i64 chan) rfl (BB.vr fun q2 e2 => ?_)
  cases q2
  ·have h2 := beq_eq_false_iff_ne.1 e2
   refine Cn.no (⟨IW.by (wrap_id (n := ↑i + 1) (by omega) (by omega)) ?_⟩)
   exact ⟨i + 1, ⟨rfl, trivial⟩, ⟨⟨by omega, by rw [← hI, hs, if_neg (by omega)]⟩, H.pick [1] 2 (by decide)⟩, (show l.length - (i + 1) < l.length - i by omega)⟩
  have h2 := eq_of_beq e2
  refine Cn.yes (⟨H.ldi 0 rfl (v := .int .i64 value) rfl ?_⟩)
  refine ret1 (.int .i64 value) rfl (by rfl) ?_
  exact ⟨by rw [← hI, hs, if_pos (by omega)], H.pick [1] 2 (by decide)⟩
 have hob : i = l.length := by omega
 obtain rfl := hob
 refine ⟨BB.no (decide_eq_false (by omega)) ?_⟩
 refine Cn.no (⟨ret1 (.int .i64 0) rfl (by rfl) ?_⟩)
 exact ⟨by rw [← hI, List.drop_of_length_le (Nat.le_refl _)]; rfl, H⟩
theorem done_f {l : List Ev} {c : Int} {s : Bool} {i : Nat} {kind g chan case_ value mate : Int} {send : Bool} (hd : l.getD i evz = ⟨kind, g, chan, case_, value, mate, send, false⟩) : doneU l c s (i + 1) = doneU l c s i ++ (if chan ≠ c ∨ kind ≠ 3 then [] else if send = s then [i] else if 0 ≤ mate ∧ i + 1 < l.length then [i + 1] else []) := by
 rw [doneU, doneO, hd]
 simp only [or_true, and_true]
theorem done_t {l : List Ev} {c : Int} {s : Bool} {i : Nat} {kind g chan case_ value mate : Int} {send : Bool} (hd : l.getD i evz = ⟨kind, g, chan, case_, value, mate, send, true⟩) : doneU l c s (i + 1) = doneU l c s i ++ (if chan ≠ c ∨ kind ≠ 3 ∧ kind ≠ 4 then [] else if send = s then [i] else if 0 ≤ mate ∧ i + 1 < l.length then [i + 1] else []) := by
 rw [doneU, doneO, hd]
 simp only [reduceCtorEq, or_false]
set_option maxHeartbeats 4000000 in
theorem f_done {w : World} {F : List Piece} {A : Piece} {lb lo lc : Nat} {l : List Ev} (hA : EvA A lb lo l) {c : Int} {s : Bool} (hll : l.length ≤ 2000) (H : SL w (A :: F)) : Calls Tryz.prog 97 #[.slice (some ⟨lb, lo, none⟩) l.length lc, .int .i64 c, .bool s] w fun o w' => ∃ da dc, o = .returned (.slice da (doneF l c s).length dc) ∧ SL w' (Slc 3 1 (.slice da (doneF l c s).length dc) (doneF l c s).length (nats (doneF l c s)) :: A :: F) := by
 cases s with
 | true =>
  refine calls_den (args := [_, _, _]) Tryz.func97 rfl (Nat.le_of_ble_eq_true (by kernel_rfl)) (by kernel_rfl) ?_
  refine ⟨⟨⟨⟨?_⟩⟩⟩⟩
  have q := SL.slcNil 3 1 (H)
  refine den.loop (ι := Nat × Value) [(7, 9), (12, 59)] (by kernel_rfl) (fun (i, dv) => [(7, dv), (12, .int .i64 ↑i)]) (fun (i, dv) w => i ≤ l.length ∧ SL w (Slc 3 1 dv (doneU l c true i).length (nats (doneU l c true i)) :: A :: F)) (fun (i, dv) => l.length - i) (0, (.slice none 0 0)) ⟨rfl, rfl, trivial⟩ ⟨Nat.zero_le _, q⟩ ?_
  rintro ⟨i, dv⟩ s w ⟨hi0, H⟩
  have hob := SL.slcForm H
  obtain ⟨da, dc, rfl⟩ := hob
  have hob := Nat.lt_or_ge i l.length
  rcases hob with hi | hi
  ·have hob : ∃ x, l[i]? = some x := ⟨_, List.getElem?_eq_getElem hi⟩
   obtain ⟨⟨kind, g, chan, case_, value, mate, send, ok⟩, he⟩ := hob
   have hd : l.getD i evz = ⟨kind, g, chan, case_, value, mate, send, ok⟩ := by rw [List.getD_eq_getElem?_getD, he]; rfl
   have hln : (doneU l c true i).length ≤ i := done_len_le
   cases ok
   ·have hs := done_f (s := true) (c := c) hd
    cases send
    ·refine ⟨BB.yes (decide_eq_true (by omega)) ?_⟩
     refine Cn.yes (⟨⟨Ix.at i 8 (by kernel_rfl) (rfl) (hi) ?_⟩⟩)
     refine H.ldE 1 rfl hA i 0 he (v := .int .i64 kind) rfl (H.ldE 1 rfl hA i 1 he (v := .int .i64 g) rfl (H.ldE 1 rfl hA i 2 he (v := .int .i64 chan) rfl (H.ldE 1 rfl hA i 3 he (v := .int .i64 case_) rfl (H.ldE 1 rfl hA i 4 he (v := .int .i64 value) rfl (H.ldE 1 rfl hA i 5 he (v := .int .i64 mate) rfl ?_)))))
     refine H.ldE 1 rfl hA i 6 he (v := .bool false) rfl (H.ldE 1 rfl hA i 7 he (v := .bool false) rfl (Nw.as #[.int .i64 0, .int .i64 0, .int .i64 0, .int .i64 0, .int .i64 0, .int .i64 0, .bool false, .bool false] 53 rfl H fun b9 w H => ?_))
     refine SL.stEv H rfl rfl fun w H => ?_
     refine ⟨H.ldi 0 rfl (v := .int .i64 chan) rfl ?_⟩
     refine BB.vr fun q1 e1 => ?_
     cases q1
     ·have h1 := bne_eq_false_iff_eq.1 e1
      refine H.ldi 0 rfl (v := .int .i64 kind) rfl (BB.vr fun q2 e2 => ?_)
      cases q2
      ·have h2 := bne_eq_false_iff_eq.1 e2
       refine Cn.no (⟨H.ldi 0 rfl (v := .bool false) rfl ?_⟩)
       refine BB.no rfl (BB.no rfl (Cn.no (⟨H.ldi 0 rfl (v := .int .i64 mate) rfl ?_⟩)))
       refine BB.vr fun q3 e3 => ?_
       cases q3
       ·have h3 := of_decide_eq_false e3
        refine Cn.no (⟨IW.by (wrap_id (n := ↑i + 1) (by omega) (by omega)) ?_⟩)
        have hq : doneU l c true (i + 1) = doneU l c true i := by first | rw [hs, if_pos (by omega), List.append_nil] | rw [hs, if_neg (by omega), if_neg (by decide), if_neg (by omega), List.append_nil]
        have q : SL w (Slc 3 1 (.slice da ((doneU l c true i).length) dc) (doneU l c true (i + 1)).length (nats (doneU l c true (i + 1))) :: A :: F) := by
         rw [hq]
         exact H.pick [1, 2] 3 (by decide)
        exact ⟨(i + 1, (.slice da ((doneU l c true i).length) dc)), ⟨rfl, rfl, trivial⟩, ⟨(by omega : i + 1 ≤ l.length), q⟩, (show l.length - (i + 1) < l.length - i by omega)⟩
       have h3 := of_decide_eq_true e3
       refine IW.by (wrap_id (n := ↑i + 1) (by omega) (by omega)) (BB.vr fun q4 e4 => ?_)
       cases q4
       ·have h4 := of_decide_eq_false e4
        refine Cn.no (⟨IW.by (wrap_id (n := ↑i + 1) (by omega) (by omega)) ?_⟩)
        have hq : doneU l c true (i + 1) = doneU l c true i := by first | rw [hs, if_pos (by omega), List.append_nil] | rw [hs, if_neg (by omega), if_neg (by decide), if_neg (by omega), List.append_nil]
        have q : SL w (Slc 3 1 (.slice da ((doneU l c true i).length) dc) (doneU l c true (i + 1)).length (nats (doneU l c true (i + 1))) :: A :: F) := by
         rw [hq]
         exact H.pick [1, 2] 3 (by decide)
        exact ⟨(i + 1, (.slice da ((doneU l c true i).length) dc)), ⟨rfl, rfl, trivial⟩, ⟨(by omega : i + 1 ≤ l.length), q⟩, (show l.length - (i + 1) < l.length - i by omega)⟩
       have h4 := of_decide_eq_true e4
       refine Cn.yes (⟨IW.by (wrap_id (n := ↑i + 1) (by omega) (by omega)) ?_⟩)
       refine Mn.new (fun b => .slice (some ⟨b, 0, none⟩) 1 1) #[.int .i64 (↑i + 1)] 3 (by kernel_rfl) H fun b57 w H => ?_
       refine SL.appS H.up2 (.tmp 54) (.tmp 57) 67 (.int .i64 0) 8 (by rfl) (by kernel_rfl) (by kernel_rfl) (by rfl) (by decide) (by rfl) (some ⟨b57, 0, none⟩) 1 1 [.int .i64 (↑i + 1)] (by rfl) (H.rdRow 0 rfl (by rfl) (by decide)) (by rfl) (by omega) (by decide) (by decide) fun g5 c5 w H => ?_
       refine ⟨IW.by (wrap_id (n := ↑i + 1) (by omega) (by omega)) ?_⟩
       have hq : doneU l c true (i + 1) = doneU l c true i ++ [i + 1] := by rw [hs, if_neg (by omega), if_neg (by decide), if_pos (by omega)]
       have q : SL w (Slc 3 1 (.slice (some ⟨g5, 0, none⟩) ((doneU l c true i).length + 1) c5) (doneU l c true (i + 1)).length (nats (doneU l c true (i + 1))) :: A :: F) := by
        rw [hq, nats_app1, List.length_append]
        exact H.pick [0, 3] 4 (by decide)
       exact ⟨(i + 1, (.slice (some ⟨g5, 0, none⟩) ((doneU l c true i).length + 1) c5)), ⟨rfl, rfl, trivial⟩, ⟨(by omega : i + 1 ≤ l.length), q⟩, (show l.length - (i + 1) < l.length - i by omega)⟩
      have h2 := bne_iff_ne.1 e2
      refine H.ldi 0 rfl (v := .int .i64 kind) rfl (BB.vr fun q6 e6 => ?_)
      cases q6
      ·have h6 := bne_eq_false_iff_eq.1 e6
       refine H.ldi 0 rfl (v := .bool false) rfl (BB.no rfl (BB.yes rfl (Cn.yes (⟨IW.by (wrap_id (n := ↑i + 1) (by omega) (by omega)) ?_⟩))))
       have hq : doneU l c true (i + 1) = doneU l c true i := by first | rw [hs, if_pos (by omega), List.append_nil] | rw [hs, if_neg (by omega), if_neg (by decide), if_neg (by omega), List.append_nil]
       have q : SL w (Slc 3 1 (.slice da ((doneU l c true i).length) dc) (doneU l c true (i + 1)).length (nats (doneU l c true (i + 1))) :: A :: F) := by
        rw [hq]
        exact H.pick [1, 2] 3 (by decide)
       exact ⟨(i + 1, (.slice da ((doneU l c true i).length) dc)), ⟨rfl, rfl, trivial⟩, ⟨(by omega : i + 1 ≤ l.length), q⟩, (show l.length - (i + 1) < l.length - i by omega)⟩
      have h6 := bne_iff_ne.1 e6
      refine Cn.yes (⟨IW.by (wrap_id (n := ↑i + 1) (by omega) (by omega)) ?_⟩)
      have hq : doneU l c true (i + 1) = doneU l c true i := by first | rw [hs, if_pos (by omega), List.append_nil] | rw [hs, if_neg (by omega), if_neg (by decide), if_neg (by omega), List.append_nil]
      have q : SL w (Slc 3 1 (.slice da ((doneU l c true i).length) dc) (doneU l c true (i + 1)).length (nats (doneU l c true (i + 1))) :: A :: F) := by
       rw [hq]
       exact H.pick [1, 2] 3 (by decide)
      exact ⟨(i + 1, (.slice da ((doneU l c true i).length) dc)), ⟨rfl, rfl, trivial⟩, ⟨(by omega : i + 1 ≤ l.length), q⟩, (show l.length - (i + 1) < l.length - i by omega)⟩
     have h1 := bne_iff_ne.1 e1
     refine Cn.yes (⟨IW.by (wrap_id (n := ↑i + 1) (by omega) (by omega)) ?_⟩)
     have hq : doneU l c true (i + 1) = doneU l c true i := by first | rw [hs, if_pos (by omega), List.append_nil] | rw [hs, if_neg (by omega), if_neg (by decide), if_neg (by omega), List.append_nil]
     have q : SL w (Slc 3 1 (.slice da ((doneU l c true i).length) dc) (doneU l c true (i + 1)).length (nats (doneU l c true (i + 1))) :: A :: F) := by
      rw [hq]
      exact H.pick [1, 2] 3 (by decide)
     exact ⟨(i + 1, (.slice da ((doneU l c true i).length) dc)), ⟨rfl, rfl, trivial⟩, ⟨(by omega : i + 1 ≤ l.length), q⟩, (show l.length - (i + 1) < l.length - i by omega)⟩
    refine ⟨BB.yes (decide_eq_true (by omega)) ?_⟩
    refine Cn.yes (⟨⟨Ix.at i 8 (by kernel_rfl) (rfl) (hi) ?_⟩⟩)
    refine H.ldE 1 rfl hA i 0 he (v := .int .i64 kind) rfl (H.ldE 1 rfl hA i 1 he (v := .int .i64 g) rfl (H.ldE 1 rfl hA i 2 he (v := .int .i64 chan) rfl (H.ldE 1 rfl hA i 3 he (v := .int .i64 case_) rfl (H.ldE 1 rfl hA i 4 he (v := .int .i64 value) rfl (H.ldE 1 rfl hA i 5 he (v := .int .i64 mate) rfl ?_)))))
    refine H.ldE 1 rfl hA i 6 he (v := .bool true) rfl (H.ldE 1 rfl hA i 7 he (v := .bool false) rfl (Nw.as #[.int .i64 0, .int .i64 0, .int .i64 0, .int .i64 0, .int .i64 0, .int .i64 0, .bool false, .bool false] 53 rfl H fun b9 w H => ?_))
    refine SL.stEv H rfl rfl fun w H => ?_
    refine ⟨H.ldi 0 rfl (v := .int .i64 chan) rfl ?_⟩
    refine BB.vr fun q7 e7 => ?_
    cases q7
    ·have h7 := bne_eq_false_iff_eq.1 e7
     refine H.ldi 0 rfl (v := .int .i64 kind) rfl (BB.vr fun q8 e8 => ?_)
     cases q8
     ·have h8 := bne_eq_false_iff_eq.1 e8
      refine Cn.no (⟨H.ldi 0 rfl (v := .bool true) rfl ?_⟩)
      refine BB.yes rfl (BB.yes rfl (Cn.yes (⟨Mn.new (fun b => .slice (some ⟨b, 0, none⟩) 1 1) #[.int .i64 ↑i] 3 (by kernel_rfl) H fun b42 w H => ?_⟩)))
      refine SL.appS H.up2 (.tmp 40) (.tmp 42) 67 (.int .i64 0) 8 (by rfl) (by kernel_rfl) (by kernel_rfl) (by rfl) (by decide) (by rfl) (some ⟨b42, 0, none⟩) 1 1 [.int .i64 ↑i] (by rfl) (H.rdRow 0 rfl (by rfl) (by decide)) (by rfl) (by omega) (by decide) (by decide) fun g9 c9 w H => ?_
      refine ⟨IW.by (wrap_id (n := ↑i + 1) (by omega) (by omega)) ?_⟩
      have hq : doneU l c true (i + 1) = doneU l c true i ++ [i] := by rw [hs, if_neg (by omega), if_pos rfl]
      have q : SL w (Slc 3 1 (.slice (some ⟨g9, 0, none⟩) ((doneU l c true i).length + 1) c9) (doneU l c true (i + 1)).length (nats (doneU l c true (i + 1))) :: A :: F) := by
       rw [hq, nats_app, List.length_append]
       exact H.pick [0, 3] 4 (by decide)
      exact ⟨(i + 1, (.slice (some ⟨g9, 0, none⟩) ((doneU l c true i).length + 1) c9)), ⟨rfl, rfl, trivial⟩, ⟨(by omega : i + 1 ≤ l.length), q⟩, (show l.length - (i + 1) < l.length - i by omega)⟩
     have h8 := bne_iff_ne.1 e8
     refine H.ldi 0 rfl (v := .int .i64 kind) rfl (BB.vr fun q10 e10 => ?_)
     cases q10
     ·have h10 := bne_eq_false_iff_eq.1 e10
      refine H.ldi 0 rfl (v := .bool false) rfl (BB.no rfl (BB.yes rfl (Cn.yes (⟨IW.by (wrap_id (n := ↑i + 1) (by omega) (by omega)) ?_⟩))))
      have hq : doneU l c true (i + 1) = doneU l c true i := by rw [hs, if_pos (by omega), List.append_nil]
      have q : SL w (Slc 3 1 (.slice da ((doneU l c true i).length) dc) (doneU l c true (i + 1)).length (nats (doneU l c true (i + 1))) :: A :: F) := by
       rw [hq]
       exact H.pick [1, 2] 3 (by decide)
      exact ⟨(i + 1, (.slice da ((doneU l c true i).length) dc)), ⟨rfl, rfl, trivial⟩, ⟨(by omega : i + 1 ≤ l.length), q⟩, (show l.length - (i + 1) < l.length - i by omega)⟩
     have h10 := bne_iff_ne.1 e10
     refine Cn.yes (⟨IW.by (wrap_id (n := ↑i + 1) (by omega) (by omega)) ?_⟩)
     have hq : doneU l c true (i + 1) = doneU l c true i := by rw [hs, if_pos (by omega), List.append_nil]
     have q : SL w (Slc 3 1 (.slice da ((doneU l c true i).length) dc) (doneU l c true (i + 1)).length (nats (doneU l c true (i + 1))) :: A :: F) := by
      rw [hq]
      exact H.pick [1, 2] 3 (by decide)
     exact ⟨(i + 1, (.slice da ((doneU l c true i).length) dc)), ⟨rfl, rfl, trivial⟩, ⟨(by omega : i + 1 ≤ l.length), q⟩, (show l.length - (i + 1) < l.length - i by omega)⟩
    have h7 := bne_iff_ne.1 e7
    refine Cn.yes (⟨IW.by (wrap_id (n := ↑i + 1) (by omega) (by omega)) ?_⟩)
    have hq : doneU l c true (i + 1) = doneU l c true i := by rw [hs, if_pos (by omega), List.append_nil]
    have q : SL w (Slc 3 1 (.slice da ((doneU l c true i).length) dc) (doneU l c true (i + 1)).length (nats (doneU l c true (i + 1))) :: A :: F) := by
     rw [hq]
     exact H.pick [1, 2] 3 (by decide)
    exact ⟨(i + 1, (.slice da ((doneU l c true i).length) dc)), ⟨rfl, rfl, trivial⟩, ⟨(by omega : i + 1 ≤ l.length), q⟩, (show l.length - (i + 1) < l.length - i by omega)⟩
   have hs := done_t (s := true) (c := c) hd
   cases send
   ·refine ⟨BB.yes (decide_eq_true (by omega)) ?_⟩
    refine Cn.yes (⟨⟨Ix.at i 8 (by kernel_rfl) (rfl) (hi) ?_⟩⟩)
    refine H.ldE 1 rfl hA i 0 he (v := .int .i64 kind) rfl (H.ldE 1 rfl hA i 1 he (v := .int .i64 g) rfl (H.ldE 1 rfl hA i 2 he (v := .int .i64 chan) rfl (H.ldE 1 rfl hA i 3 he (v := .int .i64 case_) rfl (H.ldE 1 rfl hA i 4 he (v := .int .i64 value) rfl (H.ldE 1 rfl hA i 5 he (v := .int .i64 mate) rfl ?_)))))
    refine H.ldE 1 rfl hA i 6 he (v := .bool false) rfl (H.ldE 1 rfl hA i 7 he (v := .bool true) rfl (Nw.as #[.int .i64 0, .int .i64 0, .int .i64 0, .int .i64 0, .int .i64 0, .int .i64 0, .bool false, .bool false] 53 rfl H fun b9 w H => ?_))
    refine SL.stEv H rfl rfl fun w H => ?_
    refine ⟨H.ldi 0 rfl (v := .int .i64 chan) rfl ?_⟩
    refine BB.vr fun q11 e11 => ?_
    cases q11
    ·have h11 := bne_eq_false_iff_eq.1 e11
     refine H.ldi 0 rfl (v := .int .i64 kind) rfl (BB.vr fun q12 e12 => ?_)
     cases q12
     ·have h12 := bne_eq_false_iff_eq.1 e12
      refine Cn.no (⟨H.ldi 0 rfl (v := .bool false) rfl ?_⟩)
      refine BB.no rfl (BB.no rfl (Cn.no (⟨H.ldi 0 rfl (v := .int .i64 mate) rfl ?_⟩)))
      refine BB.vr fun q13 e13 => ?_
      cases q13
      ·have h13 := of_decide_eq_false e13
       refine Cn.no (⟨IW.by (wrap_id (n := ↑i + 1) (by omega) (by omega)) ?_⟩)
       have hq : doneU l c true (i + 1) = doneU l c true i := by first | rw [hs, if_pos (by omega), List.append_nil] | rw [hs, if_neg (by omega), if_neg (by decide), if_neg (by omega), List.append_nil]
       have q : SL w (Slc 3 1 (.slice da ((doneU l c true i).length) dc) (doneU l c true (i + 1)).length (nats (doneU l c true (i + 1))) :: A :: F) := by
        rw [hq]
        exact H.pick [1, 2] 3 (by decide)
       exact ⟨(i + 1, (.slice da ((doneU l c true i).length) dc)), ⟨rfl, rfl, trivial⟩, ⟨(by omega : i + 1 ≤ l.length), q⟩, (show l.length - (i + 1) < l.length - i by omega)⟩
      have h13 := of_decide_eq_true e13
      refine IW.by (wrap_id (n := ↑i + 1) (by omega) (by omega)) (BB.vr fun q14 e14 => ?_)
      cases q14
      ·have h14 := of_decide_eq_false e14
       refine Cn.no (⟨IW.by (wrap_id (n := ↑i + 1) (by omega) (by omega)) ?_⟩)
       have hq : doneU l c true (i + 1) = doneU l c true i := by first | rw [hs, if_pos (by omega), List.append_nil] | rw [hs, if_neg (by omega), if_neg (by decide), if_neg (by omega), List.append_nil]
       have q : SL w (Slc 3 1 (.slice da ((doneU l c true i).length) dc) (doneU l c true (i + 1)).length (nats (doneU l c true (i + 1))) :: A :: F) := by
        rw [hq]
        exact H.pick [1, 2] 3 (by decide)
       exact ⟨(i + 1, (.slice da ((doneU l c true i).length) dc)), ⟨rfl, rfl, trivial⟩, ⟨(by omega : i + 1 ≤ l.length), q⟩, (show l.length - (i + 1) < l.length - i by omega)⟩
      have h14 := of_decide_eq_true e14
      refine Cn.yes (⟨IW.by (wrap_id (n := ↑i + 1) (by omega) (by omega)) ?_⟩)
      refine Mn.new (fun b => .slice (some ⟨b, 0, none⟩) 1 1) #[.int .i64 (↑i + 1)] 3 (by kernel_rfl) H fun b57 w H => ?_
      refine SL.appS H.up2 (.tmp 54) (.tmp 57) 67 (.int .i64 0) 8 (by rfl) (by kernel_rfl) (by kernel_rfl) (by rfl) (by decide) (by rfl) (some ⟨b57, 0, none⟩) 1 1 [.int .i64 (↑i + 1)] (by rfl) (H.rdRow 0 rfl (by rfl) (by decide)) (by rfl) (by omega) (by decide) (by decide) fun g15 c15 w H => ?_
      refine ⟨IW.by (wrap_id (n := ↑i + 1) (by omega) (by omega)) ?_⟩
      have hq : doneU l c true (i + 1) = doneU l c true i ++ [i + 1] := by rw [hs, if_neg (by omega), if_neg (by decide), if_pos (by omega)]
      have q : SL w (Slc 3 1 (.slice (some ⟨g15, 0, none⟩) ((doneU l c true i).length + 1) c15) (doneU l c true (i + 1)).length (nats (doneU l c true (i + 1))) :: A :: F) := by
       rw [hq, nats_app1, List.length_append]
       exact H.pick [0, 3] 4 (by decide)
      exact ⟨(i + 1, (.slice (some ⟨g15, 0, none⟩) ((doneU l c true i).length + 1) c15)), ⟨rfl, rfl, trivial⟩, ⟨(by omega : i + 1 ≤ l.length), q⟩, (show l.length - (i + 1) < l.length - i by omega)⟩
     have h12 := bne_iff_ne.1 e12
     refine H.ldi 0 rfl (v := .int .i64 kind) rfl (BB.vr fun q16 e16 => ?_)
     cases q16
     ·have h16 := bne_eq_false_iff_eq.1 e16
      refine H.ldi 0 rfl (v := .bool true) rfl (BB.yes rfl (BB.no rfl (Cn.no (⟨H.ldi 0 rfl (v := .bool false) rfl ?_⟩))))
      refine BB.no rfl (BB.no rfl (Cn.no (⟨H.ldi 0 rfl (v := .int .i64 mate) rfl ?_⟩)))
      refine BB.vr fun q17 e17 => ?_
      cases q17
      ·have h17 := of_decide_eq_false e17
       refine Cn.no (⟨IW.by (wrap_id (n := ↑i + 1) (by omega) (by omega)) ?_⟩)
       have hq : doneU l c true (i + 1) = doneU l c true i := by first | rw [hs, if_pos (by omega), List.append_nil] | rw [hs, if_neg (by omega), if_neg (by decide), if_neg (by omega), List.append_nil]
       have q : SL w (Slc 3 1 (.slice da ((doneU l c true i).length) dc) (doneU l c true (i + 1)).length (nats (doneU l c true (i + 1))) :: A :: F) := by
        rw [hq]
        exact H.pick [1, 2] 3 (by decide)
       exact ⟨(i + 1, (.slice da ((doneU l c true i).length) dc)), ⟨rfl, rfl, trivial⟩, ⟨(by omega : i + 1 ≤ l.length), q⟩, (show l.length - (i + 1) < l.length - i by omega)⟩
      have h17 := of_decide_eq_true e17
      refine IW.by (wrap_id (n := ↑i + 1) (by omega) (by omega)) (BB.vr fun q18 e18 => ?_)
      cases q18
      ·have h18 := of_decide_eq_false e18
       refine Cn.no (⟨IW.by (wrap_id (n := ↑i + 1) (by omega) (by omega)) ?_⟩)
       have hq : doneU l c true (i + 1) = doneU l c true i := by first | rw [hs, if_pos (by omega), List.append_nil] | rw [hs, if_neg (by omega), if_neg (by decide), if_neg (by omega), List.append_nil]
       have q : SL w (Slc 3 1 (.slice da ((doneU l c true i).length) dc) (doneU l c true (i + 1)).length (nats (doneU l c true (i + 1))) :: A :: F) := by
        rw [hq]
        exact H.pick [1, 2] 3 (by decide)
       exact ⟨(i + 1, (.slice da ((doneU l c true i).length) dc)), ⟨rfl, rfl, trivial⟩, ⟨(by omega : i + 1 ≤ l.length), q⟩, (show l.length - (i + 1) < l.length - i by omega)⟩
      have h18 := of_decide_eq_true e18
      refine Cn.yes (⟨IW.by (wrap_id (n := ↑i + 1) (by omega) (by omega)) ?_⟩)
      refine Mn.new (fun b => .slice (some ⟨b, 0, none⟩) 1 1) #[.int .i64 (↑i + 1)] 3 (by kernel_rfl) H fun b57 w H => ?_
      refine SL.appS H.up2 (.tmp 54) (.tmp 57) 67 (.int .i64 0) 8 (by rfl) (by kernel_rfl) (by kernel_rfl) (by rfl) (by decide) (by rfl) (some ⟨b57, 0, none⟩) 1 1 [.int .i64 (↑i + 1)] (by rfl) (H.rdRow 0 rfl (by rfl) (by decide)) (by rfl) (by omega) (by decide) (by decide) fun g19 c19 w H => ?_
      refine ⟨IW.by (wrap_id (n := ↑i + 1) (by omega) (by omega)) ?_⟩
      have hq : doneU l c true (i + 1) = doneU l c true i ++ [i + 1] := by rw [hs, if_neg (by omega), if_neg (by decide), if_pos (by omega)]
      have q : SL w (Slc 3 1 (.slice (some ⟨g19, 0, none⟩) ((doneU l c true i).length + 1) c19) (doneU l c true (i + 1)).length (nats (doneU l c true (i + 1))) :: A :: F) := by
       rw [hq, nats_app1, List.length_append]
       exact H.pick [0, 3] 4 (by decide)
      exact ⟨(i + 1, (.slice (some ⟨g19, 0, none⟩) ((doneU l c true i).length + 1) c19)), ⟨rfl, rfl, trivial⟩, ⟨(by omega : i + 1 ≤ l.length), q⟩, (show l.length - (i + 1) < l.length - i by omega)⟩
     have h16 := bne_iff_ne.1 e16
     refine Cn.yes (⟨IW.by (wrap_id (n := ↑i + 1) (by omega) (by omega)) ?_⟩)
     have hq : doneU l c true (i + 1) = doneU l c true i := by first | rw [hs, if_pos (by omega), List.append_nil] | rw [hs, if_neg (by omega), if_neg (by decide), if_neg (by omega), List.append_nil]
     have q : SL w (Slc 3 1 (.slice da ((doneU l c true i).length) dc) (doneU l c true (i + 1)).length (nats (doneU l c true (i + 1))) :: A :: F) := by
      rw [hq]
      exact H.pick [1, 2] 3 (by decide)
     exact ⟨(i + 1, (.slice da ((doneU l c true i).length) dc)), ⟨rfl, rfl, trivial⟩, ⟨(by omega : i + 1 ≤ l.length), q⟩, (show l.length - (i + 1) < l.length - i by omega)⟩
    have h11 := bne_iff_ne.1 e11
    refine Cn.yes (⟨IW.by (wrap_id (n := ↑i + 1) (by omega) (by omega)) ?_⟩)
    have hq : doneU l c true (i + 1) = doneU l c true i := by first | rw [hs, if_pos (by omega), List.append_nil] | rw [hs, if_neg (by omega), if_neg (by decide), if_neg (by omega), List.append_nil]
    have q : SL w (Slc 3 1 (.slice da ((doneU l c true i).length) dc) (doneU l c true (i + 1)).length (nats (doneU l c true (i + 1))) :: A :: F) := by
     rw [hq]
     exact H.pick [1, 2] 3 (by decide)
    exact ⟨(i + 1, (.slice da ((doneU l c true i).length) dc)), ⟨rfl, rfl, trivial⟩, ⟨(by omega : i + 1 ≤ l.length), q⟩, (show l.length - (i + 1) < l.length - i by omega)⟩
   refine ⟨BB.yes (decide_eq_true (by omega)) ?_⟩
   refine Cn.yes (⟨⟨Ix.at i 8 (by kernel_rfl) (rfl) (hi) ?_⟩⟩)
   refine H.ldE 1 rfl hA i 0 he (v := .int .i64 kind) rfl (H.ldE 1 rfl hA i 1 he (v := .int .i64 g) rfl (H.ldE 1 rfl hA i 2 he (v := .int .i64 chan) rfl (H.ldE 1 rfl hA i 3 he (v := .int .i64 case_) rfl (H.ldE 1 rfl hA i 4 he (v := .int .i64 value) rfl (H.ldE 1 rfl hA i 5 he (v := .int .i64 mate) rfl ?_)))))
   refine H.ldE 1 rfl hA i 6 he (v := .bool true) rfl (H.ldE 1 rfl hA i 7 he (v := .bool true) rfl (Nw.as #[.int .i64 0, .int .i64 0, .int .i64 0, .int .i64 0, .int .i64 0, .int .i64 0, .bool false, .bool false] 53 rfl H fun b9 w H => ?_))
   refine SL.stEv H rfl rfl fun w H => ?_
   refine ⟨H.ldi 0 rfl (v := .int .i64 chan) rfl ?_⟩
   refine BB.vr fun q20 e20 => ?_
   cases q20
   ·have h20 := bne_eq_false_iff_eq.1 e20
    refine H.ldi 0 rfl (v := .int .i64 kind) rfl (BB.vr fun q21 e21 => ?_)
    cases q21
    ·have h21 := bne_eq_false_iff_eq.1 e21
     refine Cn.no (⟨H.ldi 0 rfl (v := .bool true) rfl ?_⟩)
     refine BB.yes rfl (BB.yes rfl (Cn.yes (⟨Mn.new (fun b => .slice (some ⟨b, 0, none⟩) 1 1) #[.int .i64 ↑i] 3 (by kernel_rfl) H fun b42 w H => ?_⟩)))
     refine SL.appS H.up2 (.tmp 40) (.tmp 42) 67 (.int .i64 0) 8 (by rfl) (by kernel_rfl) (by kernel_rfl) (by rfl) (by decide) (by rfl) (some ⟨b42, 0, none⟩) 1 1 [.int .i64 ↑i] (by rfl) (H.rdRow 0 rfl (by rfl) (by decide)) (by rfl) (by omega) (by decide) (by decide) fun g22 c22 w H => ?_
     refine ⟨IW.by (wrap_id (n := ↑i + 1) (by omega) (by omega)) ?_⟩
     have hq : doneU l c true (i + 1) = doneU l c true i ++ [i] := by rw [hs, if_neg (by omega), if_pos rfl]
     have q : SL w (Slc 3 1 (.slice (some ⟨g22, 0, none⟩) ((doneU l c true i).length + 1) c22) (doneU l c true (i + 1)).length (nats (doneU l c true (i + 1))) :: A :: F) := by
      rw [hq, nats_app, List.length_append]
      exact H.pick [0, 3] 4 (by decide)
     exact ⟨(i + 1, (.slice (some ⟨g22, 0, none⟩) ((doneU l c true i).length + 1) c22)), ⟨rfl, rfl, trivial⟩, ⟨(by omega : i + 1 ≤ l.length), q⟩, (show l.length - (i + 1) < l.length - i by omega)⟩
    have h21 := bne_iff_ne.1 e21
    refine H.ldi 0 rfl (v := .int .i64 kind) rfl (BB.vr fun q23 e23 => ?_)
    cases q23
    ·have h23 := bne_eq_false_iff_eq.1 e23
     refine H.ldi 0 rfl (v := .bool true) rfl (BB.yes rfl (BB.no rfl (Cn.no (⟨H.ldi 0 rfl (v := .bool true) rfl ?_⟩))))
     refine BB.yes rfl (BB.yes rfl (Cn.yes (⟨Mn.new (fun b => .slice (some ⟨b, 0, none⟩) 1 1) #[.int .i64 ↑i] 3 (by kernel_rfl) H fun b42 w H => ?_⟩)))
     refine SL.appS H.up2 (.tmp 40) (.tmp 42) 67 (.int .i64 0) 8 (by rfl) (by kernel_rfl) (by kernel_rfl) (by rfl) (by decide) (by rfl) (some ⟨b42, 0, none⟩) 1 1 [.int .i64 ↑i] (by rfl) (H.rdRow 0 rfl (by rfl) (by decide)) (by rfl) (by omega) (by decide) (by decide) fun g24 c24 w H => ?_
     refine ⟨IW.by (wrap_id (n := ↑i + 1) (by omega) (by omega)) ?_⟩
     have hq : doneU l c true (i + 1) = doneU l c true i ++ [i] := by rw [hs, if_neg (by omega), if_pos rfl]
     have q : SL w (Slc 3 1 (.slice (some ⟨g24, 0, none⟩) ((doneU l c true i).length + 1) c24) (doneU l c true (i + 1)).length (nats (doneU l c true (i + 1))) :: A :: F) := by
      rw [hq, nats_app, List.length_append]
      exact H.pick [0, 3] 4 (by decide)
     exact ⟨(i + 1, (.slice (some ⟨g24, 0, none⟩) ((doneU l c true i).length + 1) c24)), ⟨rfl, rfl, trivial⟩, ⟨(by omega : i + 1 ≤ l.length), q⟩, (show l.length - (i + 1) < l.length - i by omega)⟩
    have h23 := bne_iff_ne.1 e23
    refine Cn.yes (⟨IW.by (wrap_id (n := ↑i + 1) (by omega) (by omega)) ?_⟩)
    have hq : doneU l c true (i + 1) = doneU l c true i := by rw [hs, if_pos (by omega), List.append_nil]
    have q : SL w (Slc 3 1 (.slice da ((doneU l c true i).length) dc) (doneU l c true (i + 1)).length (nats (doneU l c true (i + 1))) :: A :: F) := by
     rw [hq]
     exact H.pick [1, 2] 3 (by decide)
    exact ⟨(i + 1, (.slice da ((doneU l c true i).length) dc)), ⟨rfl, rfl, trivial⟩, ⟨(by omega : i + 1 ≤ l.length), q⟩, (show l.length - (i + 1) < l.length - i by omega)⟩
   have h20 := bne_iff_ne.1 e20
   refine Cn.yes (⟨IW.by (wrap_id (n := ↑i + 1) (by omega) (by omega)) ?_⟩)
   have hq : doneU l c true (i + 1) = doneU l c true i := by rw [hs, if_pos (by omega), List.append_nil]
   have q : SL w (Slc 3 1 (.slice da ((doneU l c true i).length) dc) (doneU l c true (i + 1)).length (nats (doneU l c true (i + 1))) :: A :: F) := by
    rw [hq]
    exact H.pick [1, 2] 3 (by decide)
   exact ⟨(i + 1, (.slice da ((doneU l c true i).length) dc)), ⟨rfl, rfl, trivial⟩, ⟨(by omega : i + 1 ≤ l.length), q⟩, (show l.length - (i + 1) < l.length - i by omega)⟩
  have hob : i = l.length := by omega
  obtain rfl := hob
  refine ⟨BB.no (decide_eq_false (by omega)) ?_⟩
  refine Cn.no (⟨ret1 (.slice da ((doneU l c true l.length).length) dc) rfl (by rfl) ?_⟩)
  exact ⟨da, dc, rfl, H⟩
 | false =>
  refine calls_den (args := [_, _, _]) Tryz.func97 rfl (Nat.le_of_ble_eq_true (by kernel_rfl)) (by kernel_rfl) ?_
  refine ⟨⟨⟨⟨?_⟩⟩⟩⟩
  have q := SL.slcNil 3 1 (H)
  refine den.loop (ι := Nat × Value) [(7, 9), (12, 59)] (by kernel_rfl) (fun (i, dv) => [(7, dv), (12, .int .i64 ↑i)]) (fun (i, dv) w => i ≤ l.length ∧ SL w (Slc 3 1 dv (doneU l c false i).length (nats (doneU l c false i)) :: A :: F)) (fun (i, dv) => l.length - i) (0, (.slice none 0 0)) ⟨rfl, rfl, trivial⟩ ⟨Nat.zero_le _, q⟩ ?_
  rintro ⟨i, dv⟩ s w ⟨hi0, H⟩
  have hob := SL.slcForm H
  obtain ⟨da, dc, rfl⟩ := hob
  have hob := Nat.lt_or_ge i l.length
  rcases hob with hi | hi
  ·have hob : ∃ x, l[i]? = some x := ⟨_, List.getElem?_eq_getElem hi⟩
   obtain ⟨⟨kind, g, chan, case_, value, mate, send, ok⟩, he⟩ := hob
   have hd : l.getD i evz = ⟨kind, g, chan, case_, value, mate, send, ok⟩ := by rw [List.getD_eq_getElem?_getD, he]; rfl
   have hln : (doneU l c false i).length ≤ i := done_len_le
   cases ok
   ·have hs := done_f (s := false) (c := c) hd
    cases send
    ·refine ⟨BB.yes (decide_eq_true (by omega)) ?_⟩
     refine Cn.yes (⟨⟨Ix.at i 8 (by kernel_rfl) (rfl) (hi) ?_⟩⟩)
     refine H.ldE 1 rfl hA i 0 he (v := .int .i64 kind) rfl (H.ldE 1 rfl hA i 1 he (v := .int .i64 g) rfl (H.ldE 1 rfl hA i 2 he (v := .int .i64 chan) rfl (H.ldE 1 rfl hA i 3 he (v := .int .i64 case_) rfl (H.ldE 1 rfl hA i 4 he (v := .int .i64 value) rfl (H.ldE 1 rfl hA i 5 he (v := .int .i64 mate) rfl ?_)))))
     refine H.ldE 1 rfl hA i 6 he (v := .bool false) rfl (H.ldE 1 rfl hA i 7 he (v := .bool false) rfl (Nw.as #[.int .i64 0, .int .i64 0, .int .i64 0, .int .i64 0, .int .i64 0, .int .i64 0, .bool false, .bool false] 53 rfl H fun b9 w H => ?_))
     refine SL.stEv H rfl rfl fun w H => ?_
     refine ⟨H.ldi 0 rfl (v := .int .i64 chan) rfl ?_⟩
     refine BB.vr fun q1 e1 => ?_
     cases q1
     ·have h1 := bne_eq_false_iff_eq.1 e1
      refine H.ldi 0 rfl (v := .int .i64 kind) rfl (BB.vr fun q2 e2 => ?_)
      cases q2
      ·have h2 := bne_eq_false_iff_eq.1 e2
       refine Cn.no (⟨H.ldi 0 rfl (v := .bool false) rfl ?_⟩)
       refine BB.no rfl (BB.yes rfl (Cn.yes (⟨Mn.new (fun b => .slice (some ⟨b, 0, none⟩) 1 1) #[.int .i64 ↑i] 3 (by kernel_rfl) H fun b42 w H => ?_⟩)))
       refine SL.appS H.up2 (.tmp 40) (.tmp 42) 67 (.int .i64 0) 8 (by rfl) (by kernel_rfl) (by kernel_rfl) (by rfl) (by decide) (by rfl) (some ⟨b42, 0, none⟩) 1 1 [.int .i64 ↑i] (by rfl) (H.rdRow 0 rfl (by rfl) (by decide)) (by rfl) (by omega) (by decide) (by decide) fun g3 c3 w H => ?_
       refine ⟨IW.by (wrap_id (n := ↑i + 1) (by omega) (by omega)) ?_⟩
       have hq : doneU l c false (i + 1) = doneU l c false i ++ [i] := by rw [hs, if_neg (by omega), if_pos rfl]
       have q : SL w (Slc 3 1 (.slice (some ⟨g3, 0, none⟩) ((doneU l c false i).length + 1) c3) (doneU l c false (i + 1)).length (nats (doneU l c false (i + 1))) :: A :: F) := by
        rw [hq, nats_app, List.length_append]
        exact H.pick [0, 3] 4 (by decide)
       exact ⟨(i + 1, (.slice (some ⟨g3, 0, none⟩) ((doneU l c false i).length + 1) c3)), ⟨rfl, rfl, trivial⟩, ⟨(by omega : i + 1 ≤ l.length), q⟩, (show l.length - (i + 1) < l.length - i by omega)⟩
      have h2 := bne_iff_ne.1 e2
      refine H.ldi 0 rfl (v := .int .i64 kind) rfl (BB.vr fun q4 e4 => ?_)
      cases q4
      ·have h4 := bne_eq_false_iff_eq.1 e4
       refine H.ldi 0 rfl (v := .bool false) rfl (BB.no rfl (BB.yes rfl (Cn.yes (⟨IW.by (wrap_id (n := ↑i + 1) (by omega) (by omega)) ?_⟩))))
       have hq : doneU l c false (i + 1) = doneU l c false i := by rw [hs, if_pos (by omega), List.append_nil]
       have q : SL w (Slc 3 1 (.slice da ((doneU l c false i).length) dc) (doneU l c false (i + 1)).length (nats (doneU l c false (i + 1))) :: A :: F) := by
        rw [hq]
        exact H.pick [1, 2] 3 (by decide)
       exact ⟨(i + 1, (.slice da ((doneU l c false i).length) dc)), ⟨rfl, rfl, trivial⟩, ⟨(by omega : i + 1 ≤ l.length), q⟩, (show l.length - (i + 1) < l.length - i by omega)⟩
      have h4 := bne_iff_ne.1 e4
      refine Cn.yes (⟨IW.by (wrap_id (n := ↑i + 1) (by omega) (by omega)) ?_⟩)
      have hq : doneU l c false (i + 1) = doneU l c false i := by rw [hs, if_pos (by omega), List.append_nil]
      have q : SL w (Slc 3 1 (.slice da ((doneU l c false i).length) dc) (doneU l c false (i + 1)).length (nats (doneU l c false (i + 1))) :: A :: F) := by
       rw [hq]
       exact H.pick [1, 2] 3 (by decide)
      exact ⟨(i + 1, (.slice da ((doneU l c false i).length) dc)), ⟨rfl, rfl, trivial⟩, ⟨(by omega : i + 1 ≤ l.length), q⟩, (show l.length - (i + 1) < l.length - i by omega)⟩
     have h1 := bne_iff_ne.1 e1
     refine Cn.yes (⟨IW.by (wrap_id (n := ↑i + 1) (by omega) (by omega)) ?_⟩)
     have hq : doneU l c false (i + 1) = doneU l c false i := by rw [hs, if_pos (by omega), List.append_nil]
     have q : SL w (Slc 3 1 (.slice da ((doneU l c false i).length) dc) (doneU l c false (i + 1)).length (nats (doneU l c false (i + 1))) :: A :: F) := by
      rw [hq]
      exact H.pick [1, 2] 3 (by decide)
     exact ⟨(i + 1, (.slice da ((doneU l c false i).length) dc)), ⟨rfl, rfl, trivial⟩, ⟨(by omega : i + 1 ≤ l.length), q⟩, (show l.length - (i + 1) < l.length - i by omega)⟩
    refine ⟨BB.yes (decide_eq_true (by omega)) ?_⟩
    refine Cn.yes (⟨⟨Ix.at i 8 (by kernel_rfl) (rfl) (hi) ?_⟩⟩)
    refine H.ldE 1 rfl hA i 0 he (v := .int .i64 kind) rfl (H.ldE 1 rfl hA i 1 he (v := .int .i64 g) rfl (H.ldE 1 rfl hA i 2 he (v := .int .i64 chan) rfl (H.ldE 1 rfl hA i 3 he (v := .int .i64 case_) rfl (H.ldE 1 rfl hA i 4 he (v := .int .i64 value) rfl (H.ldE 1 rfl hA i 5 he (v := .int .i64 mate) rfl ?_)))))
    refine H.ldE 1 rfl hA i 6 he (v := .bool true) rfl (H.ldE 1 rfl hA i 7 he (v := .bool false) rfl (Nw.as #[.int .i64 0, .int .i64 0, .int .i64 0, .int .i64 0, .int .i64 0, .int .i64 0, .bool false, .bool false] 53 rfl H fun b9 w H => ?_))
    refine SL.stEv H rfl rfl fun w H => ?_
    refine ⟨H.ldi 0 rfl (v := .int .i64 chan) rfl ?_⟩
    refine BB.vr fun q5 e5 => ?_
    cases q5
    ·have h5 := bne_eq_false_iff_eq.1 e5
     refine H.ldi 0 rfl (v := .int .i64 kind) rfl (BB.vr fun q6 e6 => ?_)
     cases q6
     ·have h6 := bne_eq_false_iff_eq.1 e6
      refine Cn.no (⟨H.ldi 0 rfl (v := .bool true) rfl ?_⟩)
      refine BB.yes rfl (BB.no rfl (Cn.no (⟨H.ldi 0 rfl (v := .int .i64 mate) rfl ?_⟩)))
      refine BB.vr fun q7 e7 => ?_
      cases q7
      ·have h7 := of_decide_eq_false e7
       refine Cn.no (⟨IW.by (wrap_id (n := ↑i + 1) (by omega) (by omega)) ?_⟩)
       have hq : doneU l c false (i + 1) = doneU l c false i := by first | rw [hs, if_pos (by omega), List.append_nil] | rw [hs, if_neg (by omega), if_neg (by decide), if_neg (by omega), List.append_nil]
       have q : SL w (Slc 3 1 (.slice da ((doneU l c false i).length) dc) (doneU l c false (i + 1)).length (nats (doneU l c false (i + 1))) :: A :: F) := by
        rw [hq]
        exact H.pick [1, 2] 3 (by decide)
       exact ⟨(i + 1, (.slice da ((doneU l c false i).length) dc)), ⟨rfl, rfl, trivial⟩, ⟨(by omega : i + 1 ≤ l.length), q⟩, (show l.length - (i + 1) < l.length - i by omega)⟩
      have h7 := of_decide_eq_true e7
      refine IW.by (wrap_id (n := ↑i + 1) (by omega) (by omega)) (BB.vr fun q8 e8 => ?_)
      cases q8
      ·have h8 := of_decide_eq_false e8
       refine Cn.no (⟨IW.by (wrap_id (n := ↑i + 1) (by omega) (by omega)) ?_⟩)
       have hq : doneU l c false (i + 1) = doneU l c false i := by first | rw [hs, if_pos (by omega), List.append_nil] | rw [hs, if_neg (by omega), if_neg (by decide), if_neg (by omega), List.append_nil]
       have q : SL w (Slc 3 1 (.slice da ((doneU l c false i).length) dc) (doneU l c false (i + 1)).length (nats (doneU l c false (i + 1))) :: A :: F) := by
        rw [hq]
        exact H.pick [1, 2] 3 (by decide)
       exact ⟨(i + 1, (.slice da ((doneU l c false i).length) dc)), ⟨rfl, rfl, trivial⟩, ⟨(by omega : i + 1 ≤ l.length), q⟩, (show l.length - (i + 1) < l.length - i by omega)⟩
      have h8 := of_decide_eq_true e8
      refine Cn.yes (⟨IW.by (wrap_id (n := ↑i + 1) (by omega) (by omega)) ?_⟩)
      refine Mn.new (fun b => .slice (some ⟨b, 0, none⟩) 1 1) #[.int .i64 (↑i + 1)] 3 (by kernel_rfl) H fun b57 w H => ?_
      refine SL.appS H.up2 (.tmp 54) (.tmp 57) 67 (.int .i64 0) 8 (by rfl) (by kernel_rfl) (by kernel_rfl) (by rfl) (by decide) (by rfl) (some ⟨b57, 0, none⟩) 1 1 [.int .i64 (↑i + 1)] (by rfl) (H.rdRow 0 rfl (by rfl) (by decide)) (by rfl) (by omega) (by decide) (by decide) fun g9 c9 w H => ?_
      refine ⟨IW.by (wrap_id (n := ↑i + 1) (by omega) (by omega)) ?_⟩
      have hq : doneU l c false (i + 1) = doneU l c false i ++ [i + 1] := by rw [hs, if_neg (by omega), if_neg (by decide), if_pos (by omega)]
      have q : SL w (Slc 3 1 (.slice (some ⟨g9, 0, none⟩) ((doneU l c false i).length + 1) c9) (doneU l c false (i + 1)).length (nats (doneU l c false (i + 1))) :: A :: F) := by
       rw [hq, nats_app1, List.length_append]
       exact H.pick [0, 3] 4 (by decide)
      exact ⟨(i + 1, (.slice (some ⟨g9, 0, none⟩) ((doneU l c false i).length + 1) c9)), ⟨rfl, rfl, trivial⟩, ⟨(by omega : i + 1 ≤ l.length), q⟩, (show l.length - (i + 1) < l.length - i by omega)⟩
     have h6 := bne_iff_ne.1 e6
     refine H.ldi 0 rfl (v := .int .i64 kind) rfl (BB.vr fun q10 e10 => ?_)
     cases q10
     ·have h10 := bne_eq_false_iff_eq.1 e10
      refine H.ldi 0 rfl (v := .bool false) rfl (BB.no rfl (BB.yes rfl (Cn.yes (⟨IW.by (wrap_id (n := ↑i + 1) (by omega) (by omega)) ?_⟩))))
      have hq : doneU l c false (i + 1) = doneU l c false i := by first | rw [hs, if_pos (by omega), List.append_nil] | rw [hs, if_neg (by omega), if_neg (by decide), if_neg (by omega), List.append_nil]
      have q : SL w (Slc 3 1 (.slice da ((doneU l c false i).length) dc) (doneU l c false (i + 1)).length (nats (doneU l c false (i + 1))) :: A :: F) := by
       rw [hq]
       exact H.pick [1, 2] 3 (by decide)
      exact ⟨(i + 1, (.slice da ((doneU l c false i).length) dc)), ⟨rfl, rfl, trivial⟩, ⟨(by omega : i + 1 ≤ l.length), q⟩, (show l.length - (i + 1) < l.length - i by omega)⟩
     have h10 := bne_iff_ne.1 e10
     refine Cn.yes (⟨IW.by (wrap_id (n := ↑i + 1) (by omega) (by omega)) ?_⟩)
     have hq : doneU l c false (i + 1) = doneU l c false i := by first | rw [hs, if_pos (by omega), List.append_nil] | rw [hs, if_neg (by omega), if_neg (by decide), if_neg (by omega), List.append_nil]
     have q : SL w (Slc 3 1 (.slice da ((doneU l c false i).length) dc) (doneU l c false (i + 1)).length (nats (doneU l c false (i + 1))) :: A :: F) := by
      rw [hq]
      exact H.pick [1, 2] 3 (by decide)
     exact ⟨(i + 1, (.slice da ((doneU l c false i).length) dc)), ⟨rfl, rfl, trivial⟩, ⟨(by omega : i + 1 ≤ l.length), q⟩, (show l.length - (i + 1) < l.length - i by omega)⟩
    have h5 := bne_iff_ne.1 e5
    refine Cn.yes (⟨IW.by (wrap_id (n := ↑i + 1) (by omega) (by omega)) ?_⟩)
    have hq : doneU l c false (i + 1) = doneU l c false i := by first | rw [hs, if_pos (by omega), List.append_nil] | rw [hs, if_neg (by omega), if_neg (by decide), if_neg (by omega), List.append_nil]
    have q : SL w (Slc 3 1 (.slice da ((doneU l c false i).length) dc) (doneU l c false (i + 1)).length (nats (doneU l c false (i + 1))) :: A :: F) := by
     rw [hq]
     exact H.pick [1, 2] 3 (by decide)
    exact ⟨(i + 1, (.slice da ((doneU l c false i).length) dc)), ⟨rfl, rfl, trivial⟩, ⟨(by omega : i + 1 ≤ l.length), q⟩, (show l.length - (i + 1) < l.length - i by omega)⟩
   have hs := done_t (s := false) (c := c) hd
   cases send
   ·refine ⟨BB.yes (decide_eq_true (by omega)) ?_⟩
    refine Cn.yes (⟨⟨Ix.at i 8 (by kernel_rfl) (rfl) (hi) ?_⟩⟩)
    refine H.ldE 1 rfl hA i 0 he (v := .int .i64 kind) rfl (H.ldE 1 rfl hA i 1 he (v := .int .i64 g) rfl (H.ldE 1 rfl hA i 2 he (v := .int .i64 chan) rfl (H.ldE 1 rfl hA i 3 he (v := .int .i64 case_) rfl (H.ldE 1 rfl hA i 4 he (v := .int .i64 value) rfl (H.ldE 1 rfl hA i 5 he (v := .int .i64 mate) rfl ?_)))))
    refine H.ldE 1 rfl hA i 6 he (v := .bool false) rfl (H.ldE 1 rfl hA i 7 he (v := .bool true) rfl (Nw.as #[.int .i64 0, .int .i64 0, .int .i64 0, .int .i64 0, .int .i64 0, .int .i64 0, .bool false, .bool false] 53 rfl H fun b9 w H => ?_))
    refine SL.stEv H rfl rfl fun w H => ?_
    refine ⟨H.ldi 0 rfl (v := .int .i64 chan) rfl ?_⟩
    refine BB.vr fun q11 e11 => ?_
    cases q11
    ·have h11 := bne_eq_false_iff_eq.1 e11
     refine H.ldi 0 rfl (v := .int .i64 kind) rfl (BB.vr fun q12 e12 => ?_)
     cases q12
     ·have h12 := bne_eq_false_iff_eq.1 e12
      refine Cn.no (⟨H.ldi 0 rfl (v := .bool false) rfl ?_⟩)
      refine BB.no rfl (BB.yes rfl (Cn.yes (⟨Mn.new (fun b => .slice (some ⟨b, 0, none⟩) 1 1) #[.int .i64 ↑i] 3 (by kernel_rfl) H fun b42 w H => ?_⟩)))
      refine SL.appS H.up2 (.tmp 40) (.tmp 42) 67 (.int .i64 0) 8 (by rfl) (by kernel_rfl) (by kernel_rfl) (by rfl) (by decide) (by rfl) (some ⟨b42, 0, none⟩) 1 1 [.int .i64 ↑i] (by rfl) (H.rdRow 0 rfl (by rfl) (by decide)) (by rfl) (by omega) (by decide) (by decide) fun g13 c13 w H => ?_
      refine ⟨IW.by (wrap_id (n := ↑i + 1) (by omega) (by omega)) ?_⟩
      have hq : doneU l c false (i + 1) = doneU l c false i ++ [i] := by rw [hs, if_neg (by omega), if_pos rfl]
      have q : SL w (Slc 3 1 (.slice (some ⟨g13, 0, none⟩) ((doneU l c false i).length + 1) c13) (doneU l c false (i + 1)).length (nats (doneU l c false (i + 1))) :: A :: F) := by
       rw [hq, nats_app, List.length_append]
       exact H.pick [0, 3] 4 (by decide)
      exact ⟨(i + 1, (.slice (some ⟨g13, 0, none⟩) ((doneU l c false i).length + 1) c13)), ⟨rfl, rfl, trivial⟩, ⟨(by omega : i + 1 ≤ l.length), q⟩, (show l.length - (i + 1) < l.length - i by omega)⟩
     have h12 := bne_iff_ne.1 e12
     refine H.ldi 0 rfl (v := .int .i64 kind) rfl (BB.vr fun q14 e14 => ?_)
     cases q14
     ·have h14 := bne_eq_false_iff_eq.1 e14
      refine H.ldi 0 rfl (v := .bool true) rfl (BB.yes rfl (BB.no rfl (Cn.no (⟨H.ldi 0 rfl (v := .bool false) rfl ?_⟩))))
      refine BB.no rfl (BB.yes rfl (Cn.yes (⟨Mn.new (fun b => .slice (some ⟨b, 0, none⟩) 1 1) #[.int .i64 ↑i] 3 (by kernel_rfl) H fun b42 w H => ?_⟩)))
      refine SL.appS H.up2 (.tmp 40) (.tmp 42) 67 (.int .i64 0) 8 (by rfl) (by kernel_rfl) (by kernel_rfl) (by rfl) (by decide) (by rfl) (some ⟨b42, 0, none⟩) 1 1 [.int .i64 ↑i] (by rfl) (H.rdRow 0 rfl (by rfl) (by decide)) (by rfl) (by omega) (by decide) (by decide) fun g15 c15 w H => ?_
      refine ⟨IW.by (wrap_id (n := ↑i + 1) (by omega) (by omega)) ?_⟩
      have hq : doneU l c false (i + 1) = doneU l c false i ++ [i] := by rw [hs, if_neg (by omega), if_pos rfl]
      have q : SL w (Slc 3 1 (.slice (some ⟨g15, 0, none⟩) ((doneU l c false i).length + 1) c15) (doneU l c false (i + 1)).length (nats (doneU l c false (i + 1))) :: A :: F) := by
       rw [hq, nats_app, List.length_append]
       exact H.pick [0, 3] 4 (by decide)
      exact ⟨(i + 1, (.slice (some ⟨g15, 0, none⟩) ((doneU l c false i).length + 1) c15)), ⟨rfl, rfl, trivial⟩, ⟨(by omega : i + 1 ≤ l.length), q⟩, (show l.length - (i + 1) < l.length - i by omega)⟩
     have h14 := bne_iff_ne.1 e14
     refine Cn.yes (⟨IW.by (wrap_id (n := ↑i + 1) (by omega) (by omega)) ?_⟩)
     have hq : doneU l c false (i + 1) = doneU l c false i := by rw [hs, if_pos (by omega), List.append_nil]
     have q : SL w (Slc 3 1 (.slice da ((doneU l c false i).length) dc) (doneU l c false (i + 1)).length (nats (doneU l c false (i + 1))) :: A :: F) := by
      rw [hq]
      exact H.pick [1, 2] 3 (by decide)
     exact ⟨(i + 1, (.slice da ((doneU l c false i).length) dc)), ⟨rfl, rfl, trivial⟩, ⟨(by omega : i + 1 ≤ l.length), q⟩, (show l.length - (i + 1) < l.length - i by omega)⟩
    have h11 := bne_iff_ne.1 e11
    refine Cn.yes (⟨IW.by (wrap_id (n := ↑i + 1) (by omega) (by omega)) ?_⟩)
    have hq : doneU l c false (i + 1) = doneU l c false i := by rw [hs, if_pos (by omega), List.append_nil]
    have q : SL w (Slc 3 1 (.slice da ((doneU l c false i).length) dc) (doneU l c false (i + 1)).length (nats (doneU l c false (i + 1))) :: A :: F) := by
     rw [hq]
     exact H.pick [1, 2] 3 (by decide)
    exact ⟨(i + 1, (.slice da ((doneU l c false i).length) dc)), ⟨rfl, rfl, trivial⟩, ⟨(by omega : i + 1 ≤ l.length), q⟩, (show l.length - (i + 1) < l.length - i by omega)⟩
   refine ⟨BB.yes (decide_eq_true (by omega)) ?_⟩
   refine Cn.yes (⟨⟨Ix.at i 8 (by kernel_rfl) (rfl) (hi) ?_⟩⟩)
   refine H.ldE 1 rfl hA i 0 he (v := .int .i64 kind) rfl (H.ldE 1 rfl hA i 1 he (v := .int .i64 g) rfl (H.ldE 1 rfl hA i 2 he (v := .int .i64 chan) rfl (H.ldE 1 rfl hA i 3 he (v := .int .i64 case_) rfl (H.ldE 1 rfl hA i 4 he (v := .int .i64 value) rfl (H.ldE 1 rfl hA i 5 he (v := .int .i64 mate) rfl ?_)))))
   refine H.ldE 1 rfl hA i 6 he (v := .bool true) rfl (H.ldE 1 rfl hA i 7 he (v := .bool true) rfl (Nw.as #[.int .i64 0, .int .i64 0, .int .i64 0, .int .i64 0, .int .i64 0, .int .i64 0, .bool false, .bool false] 53 rfl H fun b9 w H => ?_))
   refine SL.stEv H rfl rfl fun w H => ?_
   refine ⟨H.ldi 0 rfl (v := .int .i64 chan) rfl ?_⟩
   refine BB.vr fun q16 e16 => ?_
   cases q16
   ·have h16 := bne_eq_false_iff_eq.1 e16
    refine H.ldi 0 rfl (v := .int .i64 kind) rfl (BB.vr fun q17 e17 => ?_)
    cases q17
    ·have h17 := bne_eq_false_iff_eq.1 e17
     refine Cn.no (⟨H.ldi 0 rfl (v := .bool true) rfl ?_⟩)
     refine BB.yes rfl (BB.no rfl (Cn.no (⟨H.ldi 0 rfl (v := .int .i64 mate) rfl ?_⟩)))
     refine BB.vr fun q18 e18 => ?_
     cases q18
     ·have h18 := of_decide_eq_false e18
      refine Cn.no (⟨IW.by (wrap_id (n := ↑i + 1) (by omega) (by omega)) ?_⟩)
      have hq : doneU l c false (i + 1) = doneU l c false i := by first | rw [hs, if_pos (by omega), List.append_nil] | rw [hs, if_neg (by omega), if_neg (by decide), if_neg (by omega), List.append_nil]
      have q : SL w (Slc 3 1 (.slice da ((doneU l c false i).length) dc) (doneU l c false (i + 1)).length (nats (doneU l c false (i + 1))) :: A :: F) := by
       rw [hq]
       exact H.pick [1, 2] 3 (by decide)
      exact ⟨(i + 1, (.slice da ((doneU l c false i).length) dc)), ⟨rfl, rfl, trivial⟩, ⟨(by omega : i + 1 ≤ l.length), q⟩, (show l.length - (i + 1) < l.length - i by omega)⟩
     have h18 := of_decide_eq_true e18
     refine IW.by (wrap_id (n := ↑i + 1) (by omega) (by omega)) (BB.vr fun q19 e19 => ?_)
     cases q19
     ·have h19 := of_decide_eq_false e19
      refine Cn.no (⟨IW.by (wrap_id (n := ↑i + 1) (by omega) (by omega)) ?_⟩)
      have hq : doneU l c false (i + 1) = doneU l c false i := by first | rw [hs, if_pos (by omega), List.append_nil] | rw [hs, if_neg (by omega), if_neg (by decide), if_neg (by omega), List.append_nil]
      have q : SL w (Slc 3 1 (.slice da ((doneU l c false i).length) dc) (doneU l c false (i + 1)).length (nats (doneU l c false (i + 1))) :: A :: F) := by
       rw [hq]
       exact H.pick [1, 2] 3 (by decide)
      exact ⟨(i + 1, (.slice da ((doneU l c false i).length) dc)), ⟨rfl, rfl, trivial⟩, ⟨(by omega : i + 1 ≤ l.length), q⟩, (show l.length - (i + 1) < l.length - i by omega)⟩
     have h19 := of_decide_eq_true e19
     refine Cn.yes (⟨IW.by (wrap_id (n := ↑i + 1) (by omega) (by omega)) ?_⟩)
     refine Mn.new (fun b => .slice (some ⟨b, 0, none⟩) 1 1) #[.int .i64 (↑i + 1)] 3 (by kernel_rfl) H fun b57 w H => ?_
     refine SL.appS H.up2 (.tmp 54) (.tmp 57) 67 (.int .i64 0) 8 (by rfl) (by kernel_rfl) (by kernel_rfl) (by rfl) (by decide) (by rfl) (some ⟨b57, 0, none⟩) 1 1 [.int .i64 (↑i + 1)] (by rfl) (H.rdRow 0 rfl (by rfl) (by decide)) (by rfl) (by omega) (by decide) (by decide) fun g20 c20 w H => ?_
     refine ⟨IW.by (wrap_id (n := ↑i + 1) (by omega) (by omega)) ?_⟩
     have hq : doneU l c false (i + 1) = doneU l c false i ++ [i + 1] := by rw [hs, if_neg (by omega), if_neg (by decide), if_pos (by omega)]
     have q : SL w (Slc 3 1 (.slice (some ⟨g20, 0, none⟩) ((doneU l c false i).length + 1) c20) (doneU l c false (i + 1)).length (nats (doneU l c false (i + 1))) :: A :: F) := by
      rw [hq, nats_app1, List.length_append]
      exact H.pick [0, 3] 4 (by decide)
     exact ⟨(i + 1, (.slice (some ⟨g20, 0, none⟩) ((doneU l c false i).length + 1) c20)), ⟨rfl, rfl, trivial⟩, ⟨(by omega : i + 1 ≤ l.length), q⟩, (show l.length - (i + 1) < l.length - i by omega)⟩
    have h17 := bne_iff_ne.1 e17
    refine H.ldi 0 rfl (v := .int .i64 kind) rfl (BB.vr fun q21 e21 => ?_)
    cases q21
    ·have h21 := bne_eq_false_iff_eq.1 e21
     refine H.ldi 0 rfl (v := .bool true) rfl (BB.yes rfl (BB.no rfl (Cn.no (⟨H.ldi 0 rfl (v := .bool true) rfl ?_⟩))))
     refine BB.yes rfl (BB.no rfl (Cn.no (⟨H.ldi 0 rfl (v := .int .i64 mate) rfl ?_⟩)))
     refine BB.vr fun q22 e22 => ?_
     cases q22
     ·have h22 := of_decide_eq_false e22
      refine Cn.no (⟨IW.by (wrap_id (n := ↑i + 1) (by omega) (by omega)) ?_⟩)
      have hq : doneU l c false (i + 1) = doneU l c false i := by first | rw [hs, if_pos (by omega), List.append_nil] | rw [hs, if_neg (by omega), if_neg (by decide), if_neg (by omega), List.append_nil]
      have q : SL w (Slc 3 1 (.slice da ((doneU l c false i).length) dc) (doneU l c false (i + 1)).length (nats (doneU l c false (i + 1))) :: A :: F) := by
       rw [hq]
       exact H.pick [1, 2] 3 (by decide)
      exact ⟨(i + 1, (.slice da ((doneU l c false i).length) dc)), ⟨rfl, rfl, trivial⟩, ⟨(by omega : i + 1 ≤ l.length), q⟩, (show l.length - (i + 1) < l.length - i by omega)⟩
     have h22 := of_decide_eq_true e22
     refine IW.by (wrap_id (n := ↑i + 1) (by omega) (by omega)) (BB.vr fun q23 e23 => ?_)
     cases q23
     ·have h23 := of_decide_eq_false e23
      refine Cn.no (⟨IW.by (wrap_id (n := ↑i + 1) (by omega) (by omega)) ?_⟩)
      have hq : doneU l c false (i + 1) = doneU l c false i := by first | rw [hs, if_pos (by omega), List.append_nil] | rw [hs, if_neg (by omega), if_neg (by decide), if_neg (by omega), List.append_nil]
      have q : SL w (Slc 3 1 (.slice da ((doneU l c false i).length) dc) (doneU l c false (i + 1)).length (nats (doneU l c false (i + 1))) :: A :: F) := by
       rw [hq]
       exact H.pick [1, 2] 3 (by decide)
      exact ⟨(i + 1, (.slice da ((doneU l c false i).length) dc)), ⟨rfl, rfl, trivial⟩, ⟨(by omega : i + 1 ≤ l.length), q⟩, (show l.length - (i + 1) < l.length - i by omega)⟩
     have h23 := of_decide_eq_true e23
     refine Cn.yes (⟨IW.by (wrap_id (n := ↑i + 1) (by omega) (by omega)) ?_⟩)
     refine Mn.new (fun b => .slice (some ⟨b, 0, none⟩) 1 1) #[.int .i64 (↑i + 1)] 3 (by kernel_rfl) H fun b57 w H => ?_
     refine SL.appS H.up2 (.tmp 54) (.tmp 57) 67 (.int .i64 0) 8 (by rfl) (by kernel_rfl) (by kernel_rfl) (by rfl) (by decide) (by rfl) (some ⟨b57, 0, none⟩) 1 1 [.int .i64 (↑i + 1)] (by rfl) (H.rdRow 0 rfl (by rfl) (by decide)) (by rfl) (by omega) (by decide) (by decide) fun g24 c24 w H => ?_
     refine ⟨IW.by (wrap_id (n := ↑i + 1) (by omega) (by omega)) ?_⟩
     have hq : doneU l c false (i + 1) = doneU l c false i ++ [i + 1] := by rw [hs, if_neg (by omega), if_neg (by decide), if_pos (by omega)]
     have q : SL w (Slc 3 1 (.slice (some ⟨g24, 0, none⟩) ((doneU l c false i).length + 1) c24) (doneU l c false (i + 1)).length (nats (doneU l c false (i + 1))) :: A :: F) := by
      rw [hq, nats_app1, List.length_append]
      exact H.pick [0, 3] 4 (by decide)
     exact ⟨(i + 1, (.slice (some ⟨g24, 0, none⟩) ((doneU l c false i).length + 1) c24)), ⟨rfl, rfl, trivial⟩, ⟨(by omega : i + 1 ≤ l.length), q⟩, (show l.length - (i + 1) < l.length - i by omega)⟩
    have h21 := bne_iff_ne.1 e21
    refine Cn.yes (⟨IW.by (wrap_id (n := ↑i + 1) (by omega) (by omega)) ?_⟩)
    have hq : doneU l c false (i + 1) = doneU l c false i := by first | rw [hs, if_pos (by omega), List.append_nil] | rw [hs, if_neg (by omega), if_neg (by decide), if_neg (by omega), List.append_nil]
    have q : SL w (Slc 3 1 (.slice da ((doneU l c false i).length) dc) (doneU l c false (i + 1)).length (nats (doneU l c false (i + 1))) :: A :: F) := by
     rw [hq]
     exact H.pick [1, 2] 3 (by decide)
    exact ⟨(i + 1, (.slice da ((doneU l c false i).length) dc)), ⟨rfl, rfl, trivial⟩, ⟨(by omega : i + 1 ≤ l.length), q⟩, (show l.length - (i + 1) < l.length - i by omega)⟩
   have h16 := bne_iff_ne.1 e16
   refine Cn.yes (⟨IW.by (wrap_id (n := ↑i + 1) (by omega) (by omega)) ?_⟩)
   have hq : doneU l c false (i + 1) = doneU l c false i := by first | rw [hs, if_pos (by omega), List.append_nil] | rw [hs, if_neg (by omega), if_neg (by decide), if_neg (by omega), List.append_nil]
   have q : SL w (Slc 3 1 (.slice da ((doneU l c false i).length) dc) (doneU l c false (i + 1)).length (nats (doneU l c false (i + 1))) :: A :: F) := by
    rw [hq]
    exact H.pick [1, 2] 3 (by decide)
   exact ⟨(i + 1, (.slice da ((doneU l c false i).length) dc)), ⟨rfl, rfl, trivial⟩, ⟨(by omega : i + 1 ≤ l.length), q⟩, (show l.length - (i + 1) < l.length - i by omega)⟩
  have hob : i = l.length := by omega
  obtain rfl := hob
  refine ⟨BB.no (decide_eq_false (by omega)) ?_⟩
  refine Cn.no (⟨ret1 (.slice da ((doneU l c false l.length).length) dc) rfl (by rfl) ?_⟩)
  exact ⟨da, dc, rfl, H⟩
end Go.Proofs.YtoamjodmidbmbaaGreatDoor
