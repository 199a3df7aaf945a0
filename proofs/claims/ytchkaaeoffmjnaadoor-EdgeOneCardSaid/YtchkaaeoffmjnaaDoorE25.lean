/- Texts of the proof, several in one file: LawQ4. -/
import Derived.Test.YtchkaaeoffmjnaaDoorE20
namespace Go.Proofs.YtchkaaeoffmjnaaDoor
set_option linter.unusedVariables false
set_option linter.unusedSimpArgs false
open Go.RowKit
set_option maxRecDepth 100000
/-- How many of the first j of L go to t. -/
def cnt3 (L : List Edg) (t j : Nat) : Nat := ((L.take j).filter (fun x => x.dst == t)).length
section
variable {L : List Edg} {l : List Ev} {i j t : Nat} {z : Edg}
theorem cnt3_step (hz : L[j]? = some z) : cnt3 L t (j + 1) = cnt3 L t j + if z.dst = t then 1 else 0 := by
 unfold cnt3
 rw [List.take_add_one, hz, Option.toList_some, List.filter_append, List.length_append, List.filter_cons, List.filter_nil]
 by_cases h : z.dst = t <;> simp [h]
theorem cnt3_le : cnt3 L t j ≤ j := Nat.le_trans (List.length_filter_le _ _) (by rw [List.length_take]; omega)
theorem one_at (h : RtL l) (hi : i < l.length) {M : List Edg} (hM : (allE l).filter (fun x : Edg => (x.rule : Int) == 3) = M) : cnt3 M i M.length ≤ 1 ∧ (recvF' (l.getD i evz) = false → cnt3 M i M.length = 0) ∧ (recvF' (l.getD i evz) = true → ¬ (i + 1 = l.length ∧ 0 ≤ (l.getD i evz).mate) → 0 < cnt3 M i M.length) := by
 have e : cnt3 M i M.length = (((allE l).filter (fun x : Edg => (x.rule : Int) == 3)).filter (fun x => x.dst == i)).length := by
  unfold cnt3
  rw [List.take_length, hM]
 rw [e]
 refine ⟨three_le h i, fun hf => ?_, fun ht hl => (three_pos h i).2 (recv_three h hi ht hl)⟩
 rcases Nat.eq_zero_or_pos ((((allE l).filter (fun x : Edg => (x.rule : Int) == 3)).filter (fun x => x.dst == i)).length) with h0 | h0
 ·exact h0
 ·obtain ⟨x, hx, hr, hd⟩ := (three_pos h i).1 h0
  have := three_recv h hx hr
  rw [hd, hf] at this
  cases this
end
theorem take_j {zs : List Value} {M : List Edg} {j : Nat} {z : Edg} (h : zs.take (M.length * 3) = M.flatMap Edg.cells) (hz : M[j]? = some z) (c : Nat) (hc : c < 3) : zs[j * 3 + c]? = z.cells[c]? := by
 have hj := (List.getElem?_eq_some_iff.1 hz).1
 have e : zs[j * 3 + c]? = (zs.take (M.length * 3))[j * 3 + c]? := by
  rw [List.getElem?_take, if_pos (by omega)]
 rw [e, h]
 exact edg_at hz c hc
theorem on_big {w : World} {F : List Piece} {A : Piece} {la : Option Addr} {n lc : Nat} (hG : SpansA A) (hn : 200 < n) (H : SL w (A :: F)) : Calls Tryd.prog 4 #[.slice la n lc] w fun o w' => o = .returned (.bool true) ∧ SL w' (A :: F) := by
 refine calls_den (args := [_]) Tryd.func4 rfl (Nat.le_of_ble_eq_true (by kernel_rfl)) (by kernel_rfl) ?_
 refine ⟨?_⟩
 refine ⟨?_⟩
 refine BB.yes (decide_eq_true (by omega)) ?_
 refine Cn.yes ?_
 refine ⟨?_⟩
 have h1 := H
 refine Cl.sl (by kernel_rfl) (l_five hG h1) fun w H => ?_
 refine BB.yes rfl ?_
 refine ret1 (fn := Tryd.f4) (.bool true) rfl (by rfl) ?_
 exact ⟨rfl, H⟩
set_option maxHeartbeats 1000000 in
theorem on_nil {w : World} {F : List Piece} {A : Piece} {la : Option Addr} {lc : Nat} (hG : SpansA A) (H : SL w (A :: F)) : Calls Tryd.prog 4 #[.slice la 0 lc] w fun o w' => o = .returned (.bool true) ∧ SL w' (A :: F) := by
 refine calls_den (args := [_]) Tryd.func4 rfl (Nat.le_of_ble_eq_true (by kernel_rfl)) (by kernel_rfl) ?_
 refine ⟨?_⟩
 refine ⟨?_⟩
 refine BB.no rfl ?_
 refine Cn.no ?_
 refine ⟨?_⟩
 refine Cl.by (by kernel_rfl) (e_ofl_nil H) ?_
 rintro _ w ⟨xa, xc, zs, rfl, H⟩
 refine ⟨_, rfl, ?_⟩
 refine ⟨?_⟩
 refine BB.no rfl ?_
 refine Cn.no ?_
 refine ⟨?_⟩
 refine ⟨?_⟩
 refine den.loop (ι := Nat) [(2, 2), (5, 7), (9, 11), (31, 101)] (by kernel_rfl) (fun i => [(31, .int .i64 ↑i)]) (fun i w => i ≤ 0 ∧ SL w (Slc 29 3 (.slice xa 0 xc) 0 zs :: A :: F)) (fun i => 0 - i) 0 ⟨rfl, trivial⟩ ⟨Nat.zero_le _, (H)⟩ ?_
 rintro i s w ⟨hc, H⟩
 have hob : i = 0 := by omega
 obtain rfl := hob
 refine ⟨?_⟩
 refine BB.no rfl ?_
 refine Cn.no ?_
 refine ⟨?_⟩
 have h1 := H.pick [1, 0] 2 (by decide)
 simp only [pk, nth, pkA, pkB, pkC, pkD, pkE, pkF] at h1
 refine Cl.sl (by kernel_rfl) (l_five hG h1) fun w H => ?_
 replace H := H.pick [1, 0] 2 (by decide)
 simp only [pk, nth, pkA, pkB, pkC, pkD, pkE, pkF] at H
 refine BB.yes rfl ?_
 refine ret1 (fn := Tryd.f4) (.bool true) rfl (by rfl) ?_
 exact ⟨rfl, H.pick [1] 2 (by decide)⟩
set_option maxHeartbeats 1000000 in
theorem on_some {w : World} {F : List Piece} {A : Piece} {lb lo lc : Nat} {l : List Ev} (hA : EvA A lb lo l) (hG : SpansA A) (h0 : 0 < l.length) (hll : l.length ≤ 200) (H : SL w (A :: F)) : Calls Tryd.prog 4 #[.slice (some ⟨lb, lo, none⟩) l.length lc] w fun o w' => o = .returned (.bool true) ∧ SL w' (A :: F) := by
 cases hr : rightF l with
 | false =>
  refine calls_den (args := [_]) Tryd.func4 rfl (Nat.le_of_ble_eq_true (by kernel_rfl)) (by kernel_rfl) ?_
  refine ⟨?_⟩
  refine ⟨?_⟩
  refine BB.no (decide_eq_false (by omega)) ?_
  refine Cn.no ?_
  refine ⟨?_⟩
  have h1 := H
  refine Cl.sl (by kernel_rfl) (e_ofl_no hA hG h0 (by omega) hr h1) fun w H => ?_
  refine ⟨?_⟩
  refine BB.yes rfl ?_
  refine Cn.yes ?_
  refine ⟨?_⟩
  refine BB.yes rfl ?_
  have h1 := H
  refine Cl.sl (by kernel_rfl) (l_five hG h1) fun w H => ?_
  refine BB.yes rfl ?_
  refine ret1 (fn := Tryd.f4) (.bool true) rfl (by rfl) ?_
  exact ⟨rfl, H⟩
 | true =>
  have hR := right_iff.1 hr
  have hal := all_le hr (by omega)
  obtain ⟨M, hM⟩ : ∃ M, (allE l).filter (fun x : Edg => (x.rule : Int) == 3) = M := ⟨_, rfl⟩
  refine calls_den (args := [_]) Tryd.func4 rfl (Nat.le_of_ble_eq_true (by kernel_rfl)) (by kernel_rfl) ?_
  refine ⟨?_⟩
  refine ⟨?_⟩
  refine BB.no (decide_eq_false (by omega)) ?_
  refine Cn.no ?_
  refine ⟨?_⟩
  have h1 := H
  have K := e_ofl (r := 3) (lc := lc) hA hG h0 (by omega) hr h1
  rw [hM] at K
  refine Cl.by (by kernel_rfl) K ?_
  rintro _ w ⟨xa, xc, zs, rfl, hzl, hzs, H⟩
  refine ⟨_, rfl, ?_⟩
  refine ⟨?_⟩
  refine BB.no rfl ?_
  refine Cn.no ?_
  refine ⟨?_⟩
  refine ⟨?_⟩
  refine den.loop (ι := Nat) [(2, 2), (5, 7), (9, 11), (31, 101)] (by kernel_rfl) (fun i => [(31, .int .i64 ↑i)]) (fun i w => i ≤ l.length ∧ SL w (Slc 29 3 (.slice xa ((allE l).length) xc) ((allE l).length) zs :: A :: F)) (fun i => l.length - i) 0 ⟨rfl, trivial⟩ ⟨Nat.zero_le _, (H)⟩ ?_
  rintro i s w ⟨hc, H⟩
  have hob := Nat.lt_or_ge i l.length
  rcases hob with hi | hi
  ·skip
   have hob : ∃ x, l[i]? = some x := ⟨_, List.getElem?_eq_getElem hi⟩
   obtain ⟨⟨kind, g, chan, case_, value, mate, send, ok⟩, he⟩ := hob
   have hd : l.getD i evz = ⟨kind, g, chan, case_, value, mate, send, ok⟩ := by rw [List.getD_eq_getElem?_getD, he]; rfl
   have hob := one_at hR hi hM
   obtain ⟨ho1, ho2, ho3⟩ := hob
   rw [hd] at ho2 ho3
   dsimp only at ho3
   have hob : ∃ N, cnt3 M i M.length = N := ⟨_, rfl⟩
   obtain ⟨N, hN⟩ := hob
   rw [hN] at ho1 ho2 ho3
   refine ⟨?_⟩
   refine BB.yes (decide_eq_true (by omega)) ?_
   refine Cn.yes ?_
   refine ⟨?_⟩
   refine ⟨?_⟩
   refine Ix.at i 8 (by kernel_rfl) (rfl) (hi) ?_
   refine H.ldE 1 rfl hA i 0 he (v := .int .i64 kind) rfl ?_
   refine H.ldE 1 rfl hA i 1 he (v := .int .i64 g) rfl ?_
   refine H.ldE 1 rfl hA i 2 he (v := .int .i64 chan) rfl ?_
   refine H.ldE 1 rfl hA i 3 he (v := .int .i64 case_) rfl ?_
   refine H.ldE 1 rfl hA i 4 he (v := .int .i64 value) rfl ?_
   refine H.ldE 1 rfl hA i 5 he (v := .int .i64 mate) rfl ?_
   refine H.ldE 1 rfl hA i 6 he (v := .bool send) rfl ?_
   refine H.ldE 1 rfl hA i 7 he (v := .bool ok) rfl ?_
   refine Nw.as #[.int .i64 0, .int .i64 0, .int .i64 0, .int .i64 0, .int .i64 0, .int .i64 0, .bool false, .bool false] 33 rfl H fun b6 w H => ?_
   refine H.st0 (cs' := #[.int .i64 kind, .int .i64 0, .int .i64 0, .int .i64 0, .int .i64 0, .int .i64 0, .bool false, .bool false]) rfl rfl rfl fun w H => ?_
   refine H.st0 (cs' := #[.int .i64 kind, .int .i64 g, .int .i64 0, .int .i64 0, .int .i64 0, .int .i64 0, .bool false, .bool false]) rfl rfl rfl fun w H => ?_
   refine H.st0 (cs' := #[.int .i64 kind, .int .i64 g, .int .i64 chan, .int .i64 0, .int .i64 0, .int .i64 0, .bool false, .bool false]) rfl rfl rfl fun w H => ?_
   refine H.st0 (cs' := #[.int .i64 kind, .int .i64 g, .int .i64 chan, .int .i64 case_, .int .i64 0, .int .i64 0, .bool false, .bool false]) rfl rfl rfl fun w H => ?_
   refine H.st0 (cs' := #[.int .i64 kind, .int .i64 g, .int .i64 chan, .int .i64 case_, .int .i64 value, .int .i64 0, .bool false, .bool false]) rfl rfl rfl fun w H => ?_
   refine H.st0 (cs' := #[.int .i64 kind, .int .i64 g, .int .i64 chan, .int .i64 case_, .int .i64 value, .int .i64 mate, .bool false, .bool false]) rfl rfl rfl fun w H => ?_
   refine H.st0 (cs' := #[.int .i64 kind, .int .i64 g, .int .i64 chan, .int .i64 case_, .int .i64 value, .int .i64 mate, .bool send, .bool false]) rfl rfl rfl fun w H => ?_
   refine H.st0 (cs' := #[.int .i64 kind, .int .i64 g, .int .i64 chan, .int .i64 case_, .int .i64 value, .int .i64 mate, .bool send, .bool ok]) rfl rfl rfl fun w H => ?_
   refine ⟨?_⟩
   refine ⟨?_⟩
   refine ⟨?_⟩
   refine den.loop (ι := Nat × Nat) [(7, 7), (9, 9), (38, 48)] (by kernel_rfl) (fun (j, n) => [(38, .int .i64 ↑j), (7, .int .i64 ↑n)]) (fun (j, n) w => (j ≤ M.length ∧ n = cnt3 M i j) ∧ SL w (Slc 29 3 (.slice xa ((allE l).length) xc) ((allE l).length) zs :: row b6 #[.int .i64 kind, .int .i64 g, .int .i64 chan, .int .i64 case_, .int .i64 value, .int .i64 mate, .bool send, .bool ok] 33 :: A :: F)) (fun (j, n) => M.length - j) (0, 0) ⟨rfl, rfl, trivial⟩ ⟨⟨Nat.zero_le _, rfl⟩, (H.pick [1, 0, 2] 3 (by decide))⟩ ?_
   rintro ⟨j, n⟩ s w ⟨hc, H⟩
   obtain ⟨hj0, hn⟩ := hc
   have hob := Nat.lt_or_ge j M.length
   rcases hob with hj | hj
   ·skip
    have hob : ∃ z, M[j]? = some z := ⟨_, List.getElem?_eq_getElem hj⟩
    obtain ⟨z, hz⟩ := hob
    have hs := cnt3_step (t := i) hz
    have hnj : n ≤ j := by rw [hn]; exact cnt3_le
    have hob := SL.slcAddr (H) (by omega)
    obtain ⟨xb, rfl⟩ := hob
    have hob := Classical.em (z.dst = i)
    rcases hob with hzi | hzi
    ·skip
     rw [if_pos hzi] at hs
     refine ⟨?_⟩
     refine BB.yes (decide_eq_true (by omega)) ?_
     refine Cn.yes ?_
     refine ⟨?_⟩
     refine ⟨?_⟩
     refine Ix.at0 j 3 (by kernel_rfl) (rfl) (hj) ?_
     refine H.ldS 0 rfl (v := .int .i64 ↑z.src) (take_j hzs hz 0 (by decide)) ?_
     refine H.ldS 0 rfl (v := .int .i64 ↑z.dst) (take_j hzs hz 1 (by decide)) ?_
     refine H.ldS 0 rfl (v := .int .i64 ↑z.rule) (take_j hzs hz 2 (by decide)) ?_
     refine Nw.as #[.int .i64 0, .int .i64 0, .int .i64 0] 29 rfl H fun b9 w H => ?_
     refine H.st0 (cs' := #[.int .i64 ↑z.src, .int .i64 0, .int .i64 0]) rfl rfl rfl fun w H => ?_
     refine H.st0 (cs' := #[.int .i64 ↑z.src, .int .i64 ↑z.dst, .int .i64 0]) rfl rfl rfl fun w H => ?_
     refine H.st0 (cs' := #[.int .i64 ↑z.src, .int .i64 ↑z.dst, .int .i64 ↑z.rule]) rfl rfl rfl fun w H => ?_
     refine ⟨?_⟩
     refine H.ldi 0 rfl (v := .int .i64 ↑z.dst) rfl ?_
     refine BB.yes (beq_iff_eq.2 (by omega)) ?_
     refine Cn.yes ?_
     refine ⟨?_⟩
     refine IW.by (wrap_id (n := ↑n + 1) (by omega) (by omega)) ?_
     refine ⟨?_⟩
     refine IW.by (wrap_id (n := ↑j + 1) (by omega) (by omega)) ?_
     exact ⟨(j + 1, n + 1), ⟨rfl, rfl, trivial⟩, ⟨⟨by omega, by rw [hs]; omega⟩, H.pick [1, 2, 3] 4 (by decide)⟩, (show M.length - (j + 1) < M.length - j by omega)⟩
    ·skip
     rw [if_neg hzi] at hs
     refine ⟨?_⟩
     refine BB.yes (decide_eq_true (by omega)) ?_
     refine Cn.yes ?_
     refine ⟨?_⟩
     refine ⟨?_⟩
     refine Ix.at0 j 3 (by kernel_rfl) (rfl) (hj) ?_
     refine H.ldS 0 rfl (v := .int .i64 ↑z.src) (take_j hzs hz 0 (by decide)) ?_
     refine H.ldS 0 rfl (v := .int .i64 ↑z.dst) (take_j hzs hz 1 (by decide)) ?_
     refine H.ldS 0 rfl (v := .int .i64 ↑z.rule) (take_j hzs hz 2 (by decide)) ?_
     refine Nw.as #[.int .i64 0, .int .i64 0, .int .i64 0] 29 rfl H fun b9 w H => ?_
     refine H.st0 (cs' := #[.int .i64 ↑z.src, .int .i64 0, .int .i64 0]) rfl rfl rfl fun w H => ?_
     refine H.st0 (cs' := #[.int .i64 ↑z.src, .int .i64 ↑z.dst, .int .i64 0]) rfl rfl rfl fun w H => ?_
     refine H.st0 (cs' := #[.int .i64 ↑z.src, .int .i64 ↑z.dst, .int .i64 ↑z.rule]) rfl rfl rfl fun w H => ?_
     refine ⟨?_⟩
     refine H.ldi 0 rfl (v := .int .i64 ↑z.dst) rfl ?_
     refine BB.no (beq_eq_false_iff_ne.2 (by omega)) ?_
     refine Cn.no ?_
     refine ⟨?_⟩
     refine IW.by (wrap_id (n := ↑j + 1) (by omega) (by omega)) ?_
     exact ⟨(j + 1, n), ⟨rfl, rfl, trivial⟩, ⟨⟨by omega, by rw [hs]; omega⟩, H.pick [1, 2, 3] 4 (by decide)⟩, (show M.length - (j + 1) < M.length - j by omega)⟩
   ·skip
    have hob : j = M.length := by omega
    obtain rfl := hob
    have hn' : N = n := by rw [hn, hN]
    subst hn'
    have hob := Classical.em (kind = 4)
    rcases hob with k4 | k4
    ·skip
     subst k4
     cases ok
     ·skip
      have hz0 := ho2 rfl
      refine ⟨?_⟩
      refine BB.no (decide_eq_false (by omega)) ?_
      refine Cn.no ?_
      refine ⟨?_⟩
      refine H.ldi 1 rfl (v := .int .i64 4) rfl ?_
      refine BB.yes rfl ?_
      refine H.ldi 1 rfl (v := .bool false) rfl ?_
      refine BB.no rfl ?_
      refine H.ldi 1 rfl (v := .int .i64 4) rfl ?_
      refine BB.no rfl ?_
      refine ⟨?_⟩
      refine IW.by (wrap_id (n := ↑l.length - 1) (by omega) (by omega)) ?_
      refine BB.vr fun q1 e1 => ?_
      cases q1
      ·skip
       have h1 := beq_eq_false_iff_ne.1 e1
       refine ⟨?_⟩
       refine BB.no (decide_eq_false (by omega)) ?_
       refine BB.yes rfl ?_
       refine BB.vr fun q2 e2 => ?_
       cases q2
       ·skip
        have h2 := of_decide_eq_false e2
        refine Cn.no ?_
        refine ⟨?_⟩
        refine IW.by (wrap_id (n := ↑i + 1) (by omega) (by omega)) ?_
        exact ⟨i + 1, ⟨rfl, trivial⟩, ⟨(by omega : i + 1 ≤ l.length), H.pick [0, 2] 3 (by decide)⟩, (show l.length - (i + 1) < l.length - i by omega)⟩
       ·skip
        have h2 := of_decide_eq_true e2
        refine Cn.yes ?_
        refine ⟨?_⟩
        refine ret1 (fn := Tryd.f4) (.bool false) rfl (by rfl) ?_
        exact (by omega : False).elim
      ·skip
       have h1 := eq_of_beq e1
       refine H.ldi 1 rfl (v := .int .i64 mate) rfl ?_
       refine BB.vr fun q3 e3 => ?_
       refine ⟨?_⟩
       refine BB.no (decide_eq_false (by omega)) ?_
       refine BB.yes rfl ?_
       refine BB.vr fun q4 e4 => ?_
       cases q4
       ·skip
        have h4 := of_decide_eq_false e4
        refine Cn.no ?_
        refine ⟨?_⟩
        refine IW.by (wrap_id (n := ↑i + 1) (by omega) (by omega)) ?_
        exact ⟨i + 1, ⟨rfl, trivial⟩, ⟨(by omega : i + 1 ≤ l.length), H.pick [0, 2] 3 (by decide)⟩, (show l.length - (i + 1) < l.length - i by omega)⟩
       ·skip
        have h4 := of_decide_eq_true e4
        refine Cn.yes ?_
        refine ⟨?_⟩
        refine ret1 (fn := Tryd.f4) (.bool false) rfl (by rfl) ?_
        exact (by omega : False).elim
     ·skip
      have hz0 := ho3 rfl
      refine ⟨?_⟩
      refine BB.no (decide_eq_false (by omega)) ?_
      refine Cn.no ?_
      refine ⟨?_⟩
      refine H.ldi 1 rfl (v := .int .i64 4) rfl ?_
      refine BB.yes rfl ?_
      refine H.ldi 1 rfl (v := .bool true) rfl ?_
      refine BB.yes rfl ?_
      refine ⟨?_⟩
      refine IW.by (wrap_id (n := ↑l.length - 1) (by omega) (by omega)) ?_
      refine BB.vr fun q5 e5 => ?_
      cases q5
      ·skip
       have h5 := beq_eq_false_iff_ne.1 e5
       refine ⟨?_⟩
       refine BB.no (decide_eq_false (by omega)) ?_
       refine BB.vr fun q6 e6 => ?_
       cases q6
       ·skip
        have h6 := beq_eq_false_iff_ne.1 e6
        refine BB.no rfl ?_
        refine Cn.no ?_
        refine ⟨?_⟩
        refine IW.by (wrap_id (n := ↑i + 1) (by omega) (by omega)) ?_
        exact ⟨i + 1, ⟨rfl, trivial⟩, ⟨(by omega : i + 1 ≤ l.length), H.pick [0, 2] 3 (by decide)⟩, (show l.length - (i + 1) < l.length - i by omega)⟩
       ·skip
        have h6 := eq_of_beq e6
        refine BB.yes rfl ?_
        refine Cn.yes ?_
        refine ⟨?_⟩
        refine ret1 (fn := Tryd.f4) (.bool false) rfl (by rfl) ?_
        exact (by omega : False).elim
      ·skip
       have h5 := eq_of_beq e5
       refine H.ldi 1 rfl (v := .int .i64 mate) rfl ?_
       refine BB.vr fun q7 e7 => ?_
       refine ⟨?_⟩
       refine BB.no (decide_eq_false (by omega)) ?_
       refine BB.vr fun q8 e8 => ?_
       cases q8
       ·skip
        have h8 := beq_eq_false_iff_ne.1 e8
        refine BB.no rfl ?_
        refine Cn.no ?_
        refine ⟨?_⟩
        refine IW.by (wrap_id (n := ↑i + 1) (by omega) (by omega)) ?_
        exact ⟨i + 1, ⟨rfl, trivial⟩, ⟨(by omega : i + 1 ≤ l.length), H.pick [0, 2] 3 (by decide)⟩, (show l.length - (i + 1) < l.length - i by omega)⟩
       ·skip
        have h8 := eq_of_beq e8
        cases q7
        ·skip
         have h7 := of_decide_eq_false e7
         refine BB.yes rfl ?_
         refine Cn.yes ?_
         refine ⟨?_⟩
         refine ret1 (fn := Tryd.f4) (.bool false) rfl (by rfl) ?_
         exact (by omega : False).elim
        ·skip
         have h7 := of_decide_eq_true e7
         refine BB.no rfl ?_
         refine BB.no rfl ?_
         refine Cn.no ?_
         refine ⟨?_⟩
         refine IW.by (wrap_id (n := ↑i + 1) (by omega) (by omega)) ?_
         exact ⟨i + 1, ⟨rfl, trivial⟩, ⟨(by omega : i + 1 ≤ l.length), H.pick [0, 2] 3 (by decide)⟩, (show l.length - (i + 1) < l.length - i by omega)⟩
    ·skip
     have hob := Classical.em (kind = 7)
     rcases hob with k7 | k7
     ·skip
      subst k7
      cases ok
      ·skip
       have hz0 := ho2 rfl
       refine ⟨?_⟩
       refine BB.no (decide_eq_false (by omega)) ?_
       refine Cn.no ?_
       refine ⟨?_⟩
       refine H.ldi 1 rfl (v := .int .i64 7) rfl ?_
       refine BB.no rfl ?_
       refine H.ldi 1 rfl (v := .int .i64 7) rfl ?_
       refine BB.yes rfl ?_
       refine H.ldi 1 rfl (v := .bool false) rfl ?_
       refine BB.no rfl ?_
       refine ⟨?_⟩
       refine IW.by (wrap_id (n := ↑l.length - 1) (by omega) (by omega)) ?_
       refine BB.vr fun q9 e9 => ?_
       cases q9
       ·skip
        have h9 := beq_eq_false_iff_ne.1 e9
        refine ⟨?_⟩
        refine BB.no (decide_eq_false (by omega)) ?_
        refine BB.yes rfl ?_
        refine BB.vr fun q10 e10 => ?_
        cases q10
        ·skip
         have h10 := of_decide_eq_false e10
         refine Cn.no ?_
         refine ⟨?_⟩
         refine IW.by (wrap_id (n := ↑i + 1) (by omega) (by omega)) ?_
         exact ⟨i + 1, ⟨rfl, trivial⟩, ⟨(by omega : i + 1 ≤ l.length), H.pick [0, 2] 3 (by decide)⟩, (show l.length - (i + 1) < l.length - i by omega)⟩
        ·skip
         have h10 := of_decide_eq_true e10
         refine Cn.yes ?_
         refine ⟨?_⟩
         refine ret1 (fn := Tryd.f4) (.bool false) rfl (by rfl) ?_
         exact (by omega : False).elim
       ·skip
        have h9 := eq_of_beq e9
        refine H.ldi 1 rfl (v := .int .i64 mate) rfl ?_
        refine BB.vr fun q11 e11 => ?_
        refine ⟨?_⟩
        refine BB.no (decide_eq_false (by omega)) ?_
        refine BB.yes rfl ?_
        refine BB.vr fun q12 e12 => ?_
        cases q12
        ·skip
         have h12 := of_decide_eq_false e12
         refine Cn.no ?_
         refine ⟨?_⟩
         refine IW.by (wrap_id (n := ↑i + 1) (by omega) (by omega)) ?_
         exact ⟨i + 1, ⟨rfl, trivial⟩, ⟨(by omega : i + 1 ≤ l.length), H.pick [0, 2] 3 (by decide)⟩, (show l.length - (i + 1) < l.length - i by omega)⟩
        ·skip
         have h12 := of_decide_eq_true e12
         refine Cn.yes ?_
         refine ⟨?_⟩
         refine ret1 (fn := Tryd.f4) (.bool false) rfl (by rfl) ?_
         exact (by omega : False).elim
      ·skip
       cases send
       ·skip
        have hz0 := ho3 rfl
        refine ⟨?_⟩
        refine BB.no (decide_eq_false (by omega)) ?_
        refine Cn.no ?_
        refine ⟨?_⟩
        refine H.ldi 1 rfl (v := .int .i64 7) rfl ?_
        refine BB.no rfl ?_
        refine H.ldi 1 rfl (v := .int .i64 7) rfl ?_
        refine BB.yes rfl ?_
        refine H.ldi 1 rfl (v := .bool true) rfl ?_
        refine BB.yes rfl ?_
        refine H.ldi 1 rfl (v := .bool false) rfl ?_
        refine BB.no rfl ?_
        refine BB.yes rfl ?_
        refine ⟨?_⟩
        refine IW.by (wrap_id (n := ↑l.length - 1) (by omega) (by omega)) ?_
        refine BB.vr fun q13 e13 => ?_
        cases q13
        ·skip
         have h13 := beq_eq_false_iff_ne.1 e13
         refine ⟨?_⟩
         refine BB.no (decide_eq_false (by omega)) ?_
         refine BB.vr fun q14 e14 => ?_
         cases q14
         ·skip
          have h14 := beq_eq_false_iff_ne.1 e14
          refine BB.no rfl ?_
          refine Cn.no ?_
          refine ⟨?_⟩
          refine IW.by (wrap_id (n := ↑i + 1) (by omega) (by omega)) ?_
          exact ⟨i + 1, ⟨rfl, trivial⟩, ⟨(by omega : i + 1 ≤ l.length), H.pick [0, 2] 3 (by decide)⟩, (show l.length - (i + 1) < l.length - i by omega)⟩
         ·skip
          have h14 := eq_of_beq e14
          refine BB.yes rfl ?_
          refine Cn.yes ?_
          refine ⟨?_⟩
          refine ret1 (fn := Tryd.f4) (.bool false) rfl (by rfl) ?_
          exact (by omega : False).elim
        ·skip
         have h13 := eq_of_beq e13
         refine H.ldi 1 rfl (v := .int .i64 mate) rfl ?_
         refine BB.vr fun q15 e15 => ?_
         refine ⟨?_⟩
         refine BB.no (decide_eq_false (by omega)) ?_
         refine BB.vr fun q16 e16 => ?_
         cases q16
         ·skip
          have h16 := beq_eq_false_iff_ne.1 e16
          refine BB.no rfl ?_
          refine Cn.no ?_
          refine ⟨?_⟩
          refine IW.by (wrap_id (n := ↑i + 1) (by omega) (by omega)) ?_
          exact ⟨i + 1, ⟨rfl, trivial⟩, ⟨(by omega : i + 1 ≤ l.length), H.pick [0, 2] 3 (by decide)⟩, (show l.length - (i + 1) < l.length - i by omega)⟩
         ·skip
          have h16 := eq_of_beq e16
          cases q15
          ·skip
           have h15 := of_decide_eq_false e15
           refine BB.yes rfl ?_
           refine Cn.yes ?_
           refine ⟨?_⟩
           refine ret1 (fn := Tryd.f4) (.bool false) rfl (by rfl) ?_
           exact (by omega : False).elim
          ·skip
           have h15 := of_decide_eq_true e15
           refine BB.no rfl ?_
           refine BB.no rfl ?_
           refine Cn.no ?_
           refine ⟨?_⟩
           refine IW.by (wrap_id (n := ↑i + 1) (by omega) (by omega)) ?_
           exact ⟨i + 1, ⟨rfl, trivial⟩, ⟨(by omega : i + 1 ≤ l.length), H.pick [0, 2] 3 (by decide)⟩, (show l.length - (i + 1) < l.length - i by omega)⟩
       ·skip
        have hz0 := ho2 rfl
        refine ⟨?_⟩
        refine BB.no (decide_eq_false (by omega)) ?_
        refine Cn.no ?_
        refine ⟨?_⟩
        refine H.ldi 1 rfl (v := .int .i64 7) rfl ?_
        refine BB.no rfl ?_
        refine H.ldi 1 rfl (v := .int .i64 7) rfl ?_
        refine BB.yes rfl ?_
        refine H.ldi 1 rfl (v := .bool true) rfl ?_
        refine BB.yes rfl ?_
        refine H.ldi 1 rfl (v := .bool true) rfl ?_
        refine BB.yes rfl ?_
        refine BB.no rfl ?_
        refine ⟨?_⟩
        refine IW.by (wrap_id (n := ↑l.length - 1) (by omega) (by omega)) ?_
        refine BB.vr fun q17 e17 => ?_
        cases q17
        ·skip
         have h17 := beq_eq_false_iff_ne.1 e17
         refine ⟨?_⟩
         refine BB.no (decide_eq_false (by omega)) ?_
         refine BB.yes rfl ?_
         refine BB.vr fun q18 e18 => ?_
         cases q18
         ·skip
          have h18 := of_decide_eq_false e18
          refine Cn.no ?_
          refine ⟨?_⟩
          refine IW.by (wrap_id (n := ↑i + 1) (by omega) (by omega)) ?_
          exact ⟨i + 1, ⟨rfl, trivial⟩, ⟨(by omega : i + 1 ≤ l.length), H.pick [0, 2] 3 (by decide)⟩, (show l.length - (i + 1) < l.length - i by omega)⟩
         ·skip
          have h18 := of_decide_eq_true e18
          refine Cn.yes ?_
          refine ⟨?_⟩
          refine ret1 (fn := Tryd.f4) (.bool false) rfl (by rfl) ?_
          exact (by omega : False).elim
        ·skip
         have h17 := eq_of_beq e17
         refine H.ldi 1 rfl (v := .int .i64 mate) rfl ?_
         refine BB.vr fun q19 e19 => ?_
         refine ⟨?_⟩
         refine BB.no (decide_eq_false (by omega)) ?_
         refine BB.yes rfl ?_
         refine BB.vr fun q20 e20 => ?_
         cases q20
         ·skip
          have h20 := of_decide_eq_false e20
          refine Cn.no ?_
          refine ⟨?_⟩
          refine IW.by (wrap_id (n := ↑i + 1) (by omega) (by omega)) ?_
          exact ⟨i + 1, ⟨rfl, trivial⟩, ⟨(by omega : i + 1 ≤ l.length), H.pick [0, 2] 3 (by decide)⟩, (show l.length - (i + 1) < l.length - i by omega)⟩
         ·skip
          have h20 := of_decide_eq_true e20
          refine Cn.yes ?_
          refine ⟨?_⟩
          refine ret1 (fn := Tryd.f4) (.bool false) rfl (by rfl) ?_
          exact (by omega : False).elim
     ·skip
      have hz0 := ho2 (by simp [recvF', *])
      refine ⟨?_⟩
      refine BB.no (decide_eq_false (by omega)) ?_
      refine Cn.no ?_
      refine ⟨?_⟩
      refine H.ldi 1 rfl (v := .int .i64 kind) rfl ?_
      refine BB.no (beq_eq_false_iff_ne.2 k4) ?_
      refine H.ldi 1 rfl (v := .int .i64 kind) rfl ?_
      refine BB.no (beq_eq_false_iff_ne.2 k7) ?_
      refine ⟨?_⟩
      refine IW.by (wrap_id (n := ↑l.length - 1) (by omega) (by omega)) ?_
      refine BB.vr fun q21 e21 => ?_
      cases q21
      ·skip
       have h21 := beq_eq_false_iff_ne.1 e21
       refine ⟨?_⟩
       refine BB.no (decide_eq_false (by omega)) ?_
       refine BB.yes rfl ?_
       refine BB.vr fun q22 e22 => ?_
       cases q22
       ·skip
        have h22 := of_decide_eq_false e22
        refine Cn.no ?_
        refine ⟨?_⟩
        refine IW.by (wrap_id (n := ↑i + 1) (by omega) (by omega)) ?_
        exact ⟨i + 1, ⟨rfl, trivial⟩, ⟨(by omega : i + 1 ≤ l.length), H.pick [0, 2] 3 (by decide)⟩, (show l.length - (i + 1) < l.length - i by omega)⟩
       ·skip
        have h22 := of_decide_eq_true e22
        refine Cn.yes ?_
        refine ⟨?_⟩
        refine ret1 (fn := Tryd.f4) (.bool false) rfl (by rfl) ?_
        exact (by omega : False).elim
      ·skip
       have h21 := eq_of_beq e21
       refine H.ldi 1 rfl (v := .int .i64 mate) rfl ?_
       refine BB.vr fun q23 e23 => ?_
       refine ⟨?_⟩
       refine BB.no (decide_eq_false (by omega)) ?_
       refine BB.yes rfl ?_
       refine BB.vr fun q24 e24 => ?_
       cases q24
       ·skip
        have h24 := of_decide_eq_false e24
        refine Cn.no ?_
        refine ⟨?_⟩
        refine IW.by (wrap_id (n := ↑i + 1) (by omega) (by omega)) ?_
        exact ⟨i + 1, ⟨rfl, trivial⟩, ⟨(by omega : i + 1 ≤ l.length), H.pick [0, 2] 3 (by decide)⟩, (show l.length - (i + 1) < l.length - i by omega)⟩
       ·skip
        have h24 := of_decide_eq_true e24
        refine Cn.yes ?_
        refine ⟨?_⟩
        refine ret1 (fn := Tryd.f4) (.bool false) rfl (by rfl) ?_
        exact (by omega : False).elim
  ·skip
   have hob : i = l.length := by omega
   obtain rfl := hob
   refine ⟨?_⟩
   refine BB.no (decide_eq_false (by omega)) ?_
   refine Cn.no ?_
   refine ⟨?_⟩
   have h1 := H.pick [1, 0] 2 (by decide)
   simp only [pk, nth, pkA, pkB, pkC, pkD, pkE, pkF] at h1
   refine Cl.sl (by kernel_rfl) (l_five hG h1) fun w H => ?_
   replace H := H.pick [1, 0] 2 (by decide)
   simp only [pk, nth, pkA, pkB, pkC, pkD, pkE, pkF] at H
   refine BB.yes rfl ?_
   refine ret1 (fn := Tryd.f4) (.bool true) rfl (by rfl) ?_
   exact ⟨rfl, H.pick [1] 2 (by decide)⟩
theorem edgeOne_walk {v : Value} {l : List Ev} {W : World} (h : EvIn W v l) (hs : Spans W) : Calls Tryd.prog 4 #[v] W fun e w' => e = .returned (.bool true) ∧ Frm Nil W w' := by
 obtain ⟨a, cap, rfl, hc, hr⟩ := h
 have H := SL.start W
 have hG : SpansA (Old W) := fun w hw => hs.later (SL.old hw)
 have done : ∀ o w', (o = Ending.returned (.bool true) ∧ SL w' [Old W]) → o = .returned (.bool true) ∧ Frm Nil W w' := fun o w' q => ⟨q.1, SL.old q.2⟩
 by_cases h1 : 200 < l.length
 ·exact (on_big hG h1 H).mono done
 ·rcases Nat.eq_zero_or_pos l.length with h0 | h0
  ·rw [h0]
   exact (on_nil hG H).mono done
  ·obtain ⟨b, off, rfl, hcell⟩ := hr.2.2 h0
   have hA : EvA (Old W) b off l := EvA.of_rd (a := some ⟨b, off, none⟩) (fun S w hS => ⟨hr.1, hr.2.1, fun _ => ⟨b, off, rfl, fun i u hu => by
    have hw := hcell i u hu
    rw [World.cell?_of_block (w := W) (w' := w) ((hS.2.2.2 b (World.block_lt_of_cell? W _ hw)).2)]
    exact hw⟩⟩) rfl
   exact (on_some (lc := cap) hA hG h0 (by omega) H).mono done
end Go.Proofs.YtchkaaeoffmjnaaDoor
