/- Gauge: the reference. -/
import Derived.Test.YtoejhelhgfipkaaDoorGaugeR1
namespace Go.Proofs.YtoejhelhgfipkaaDoor
set_option linter.unusedVariables false
set_option linter.unusedSimpArgs false
open Go.RowKit
set_option maxRecDepth 100000
theorem backR_step {l : List Ev} {e x : Ev} {k : Nat} (hx : l.getD k evz = x) : backR l e (k + 1) = (if x.kind = 5 then x.g == e.mate && x.chan == e.chan else if x.kind ≠ 7 ∨ (0 < k ∧ servesF (l.getD (k - 1) evz) = true) then false else backR l e k) := by
  subst hx
  rfl
theorem servedR_first {l : List Ev} {i : Nat} {e s : Ev} (hd : l.getD i evz = e) (h0 : 0 < i) (hs : l.getD (i - 1) evz = s) (hv : servesF s = true) : servedR l i = (e.kind == 7 && e.g == s.mate && e.mate == s.g && e.chan == s.chan && e.send != s.send && e.ok && (!s.send || e.value == s.value)) := by
  subst hd hs
  unfold servedR
  dsimp only
  rw [if_pos ⟨h0, hv⟩]
theorem servedR_else {l : List Ev} {i : Nat} {e : Ev} (hd : l.getD i evz = e) (h : ¬ (0 < i ∧ servesF (l.getD (i - 1) evz) = true)) : servedR l i = (if e.kind ≠ 7 then true else if e.ok = true ∨ e.send = true then false else backR l e i) := by
  subst hd
  unfold servedR
  dsimp only
  rw [if_neg h]

set_option maxHeartbeats 2000000 in
theorem r_served {w : World} {F : List Piece} {A : Piece} {lb lo lc i : Nat} {l : List Ev} (hA : EvA A lb lo l) (hlc : l.length ≤ lc) (hi : i < l.length) (hll : l.length ≤ 2000) (H : SL w (A :: F)) :
    Calls Tryd.prog 21 #[(.slice (some ⟨lb, lo, none⟩) l.length lc), .int .i64 (i : Int)] w fun o w' => o = .returned (.bool (servedR l i)) ∧ SL w' (A :: F) := by
  obtain ⟨e0, e1⟩ : ∃ e, l[i]'hi = e := ⟨_, rfl⟩
  have he : l[i]? = some e0 := by rw [← e1]; exact List.getElem?_eq_getElem _
  clear e1
  obtain ⟨kind, g, chan, case_, value, mate, send, ok⟩ := e0
  have hd : l.getD i evz = ⟨kind, g, chan, case_, value, mate, send, ok⟩ := by rw [List.getD_eq_getElem?_getD, he]; rfl
  rcases Nat.eq_zero_or_pos i with h0 | h0
  · skip
    refine calls_den (args := [_, _]) Tryd.func21 rfl (Nat.le_of_ble_eq_true (by kernel_rfl)) (by kernel_rfl) ?_
    refine ⟨?_⟩
    refine ⟨?_⟩
    refine Ix.at i 8 (by kernel_rfl) (rfl) (hi) ?_
    refine H.ldE 0 rfl hA i 0 he (v := .int .i64 kind) rfl ?_
    refine H.ldE 0 rfl hA i 1 he (v := .int .i64 g) rfl ?_
    refine H.ldE 0 rfl hA i 2 he (v := .int .i64 chan) rfl ?_
    refine H.ldE 0 rfl hA i 3 he (v := .int .i64 case_) rfl ?_
    refine H.ldE 0 rfl hA i 4 he (v := .int .i64 value) rfl ?_
    refine H.ldE 0 rfl hA i 5 he (v := .int .i64 mate) rfl ?_
    refine H.ldE 0 rfl hA i 6 he (v := .bool send) rfl ?_
    refine H.ldE 0 rfl hA i 7 he (v := .bool ok) rfl ?_
    refine Nw.as #[.int .i64 0, .int .i64 0, .int .i64 0, .int .i64 0, .int .i64 0, .int .i64 0, .bool false, .bool false] 39 rfl H fun b5 w H => ?_
    refine H.st0 (cs' := #[.int .i64 kind, .int .i64 0, .int .i64 0, .int .i64 0, .int .i64 0, .int .i64 0, .bool false, .bool false]) rfl rfl rfl fun w H => ?_
    refine H.st0 (cs' := #[.int .i64 kind, .int .i64 g, .int .i64 0, .int .i64 0, .int .i64 0, .int .i64 0, .bool false, .bool false]) rfl rfl rfl fun w H => ?_
    refine H.st0 (cs' := #[.int .i64 kind, .int .i64 g, .int .i64 chan, .int .i64 0, .int .i64 0, .int .i64 0, .bool false, .bool false]) rfl rfl rfl fun w H => ?_
    refine H.st0 (cs' := #[.int .i64 kind, .int .i64 g, .int .i64 chan, .int .i64 case_, .int .i64 0, .int .i64 0, .bool false, .bool false]) rfl rfl rfl fun w H => ?_
    refine H.st0 (cs' := #[.int .i64 kind, .int .i64 g, .int .i64 chan, .int .i64 case_, .int .i64 value, .int .i64 0, .bool false, .bool false]) rfl rfl rfl fun w H => ?_
    refine H.st0 (cs' := #[.int .i64 kind, .int .i64 g, .int .i64 chan, .int .i64 case_, .int .i64 value, .int .i64 mate, .bool false, .bool false]) rfl rfl rfl fun w H => ?_
    refine H.st0 (cs' := #[.int .i64 kind, .int .i64 g, .int .i64 chan, .int .i64 case_, .int .i64 value, .int .i64 mate, .bool send, .bool false]) rfl rfl rfl fun w H => ?_
    refine H.st0 (cs' := #[.int .i64 kind, .int .i64 g, .int .i64 chan, .int .i64 case_, .int .i64 value, .int .i64 mate, .bool send, .bool ok]) rfl rfl rfl fun w H => ?_
    refine ⟨?_⟩
    refine BB.no (decide_eq_false (by omega)) ?_
    refine Cn.no ?_
    refine ⟨?_⟩
    refine H.ldi 0 rfl (v := .int .i64 kind) rfl ?_
    refine BB.vr fun q1 e1 => ?_
    cases q1
    · skip
      have h1 := bne_eq_false_iff_eq.1 e1
      subst h1
      refine Cn.no ?_
      refine ⟨?_⟩
      refine H.ldi 0 rfl (v := .bool ok) rfl ?_
      refine BB.k ?_
      cases ok
      · skip
        refine H.ldi 0 rfl (v := .bool send) rfl ?_
        refine BB.k ?_
        cases send
        · skip
          refine Cn.no ?_
          refine ⟨?_⟩
          refine IW.by (m := (↑i - 1)) (wrap_id (by omega) (by omega)) ?_
          refine ⟨?_⟩
          refine den.loop (ι := Int × Nat) [(4, 4), (7, 8), (86, 123)] (by kernel_rfl) (fun (kk, j) => [(7, .int .i64 kk)]) (fun (kk, j) w => (kk = (j : Int) - 1 ∧ j ≤ i ∧ backR l ⟨7, g, chan, case_, value, mate, false, false⟩ i = backR l ⟨7, g, chan, case_, value, mate, false, false⟩ j) ∧ SL w (row b5 #[.int .i64 7, .int .i64 g, .int .i64 chan, .int .i64 case_, .int .i64 value, .int .i64 mate, .bool false, .bool false] 39 :: A :: F)) (fun (kk, j) => j) ((i : Int) - 1, i) ⟨rfl, trivial⟩ ⟨⟨rfl, Nat.le_refl _, rfl⟩, H⟩ ?_
          rintro ⟨kk, j⟩ s w ⟨hc, H⟩
          obtain ⟨hkk, hj, hb⟩ := hc
          cases j with
          | zero =>
            obtain rfl : kk = -1 := by omega
            refine ⟨?_⟩
            refine BB.no rfl ?_
            refine Cn.no ?_
            refine ⟨?_⟩
            refine ret1 (fn := Tryd.f21) (.bool false) rfl (by rfl) ?_
            have hno : ¬ (0 < i ∧ servesF (l.getD (i - 1) evz) = true) := by omega
            have hc : servedR l i = (false) := by rw [servedR_else hd hno, if_neg (by simp), if_neg (by simp), hb]; rfl
            rw [hc]
            exact ⟨rfl, H.tl⟩
          | succ m =>
            obtain rfl : kk = (m : Int) := by omega
            obtain ⟨ex0, ex1⟩ : ∃ e, l[m]'(by omega) = e := ⟨_, rfl⟩
            have hx : l[m]? = some ex0 := by rw [← ex1]; exact List.getElem?_eq_getElem _
            clear ex1
            obtain ⟨xkind, xg, xchan, xcase_, xvalue, xmate, xsend, xok⟩ := ex0
            have hdx : l.getD m evz = ⟨xkind, xg, xchan, xcase_, xvalue, xmate, xsend, xok⟩ := by rw [List.getD_eq_getElem?_getD, hx]; rfl
            rcases Nat.eq_zero_or_pos m with hm0 | hm0
            · skip
              refine ⟨?_⟩
              refine BB.yes (decide_eq_true (by omega)) ?_
              refine Cn.yes ?_
              refine ⟨?_⟩
              refine ⟨?_⟩
              refine Ix.at m 8 (by kernel_rfl) (rfl) (by omega) ?_
              refine H.ldE 1 rfl hA m 0 hx (v := .int .i64 xkind) rfl ?_
              refine H.ldE 1 rfl hA m 1 hx (v := .int .i64 xg) rfl ?_
              refine H.ldE 1 rfl hA m 2 hx (v := .int .i64 xchan) rfl ?_
              refine H.ldE 1 rfl hA m 3 hx (v := .int .i64 xcase_) rfl ?_
              refine H.ldE 1 rfl hA m 4 hx (v := .int .i64 xvalue) rfl ?_
              refine H.ldE 1 rfl hA m 5 hx (v := .int .i64 xmate) rfl ?_
              refine H.ldE 1 rfl hA m 6 hx (v := .bool xsend) rfl ?_
              refine H.ldE 1 rfl hA m 7 hx (v := .bool xok) rfl ?_
              refine Nw.as #[.int .i64 0, .int .i64 0, .int .i64 0, .int .i64 0, .int .i64 0, .int .i64 0, .bool false, .bool false] 39 rfl H fun b8 w H => ?_
              refine H.st0 (cs' := #[.int .i64 xkind, .int .i64 0, .int .i64 0, .int .i64 0, .int .i64 0, .int .i64 0, .bool false, .bool false]) rfl rfl rfl fun w H => ?_
              refine H.st0 (cs' := #[.int .i64 xkind, .int .i64 xg, .int .i64 0, .int .i64 0, .int .i64 0, .int .i64 0, .bool false, .bool false]) rfl rfl rfl fun w H => ?_
              refine H.st0 (cs' := #[.int .i64 xkind, .int .i64 xg, .int .i64 xchan, .int .i64 0, .int .i64 0, .int .i64 0, .bool false, .bool false]) rfl rfl rfl fun w H => ?_
              refine H.st0 (cs' := #[.int .i64 xkind, .int .i64 xg, .int .i64 xchan, .int .i64 xcase_, .int .i64 0, .int .i64 0, .bool false, .bool false]) rfl rfl rfl fun w H => ?_
              refine H.st0 (cs' := #[.int .i64 xkind, .int .i64 xg, .int .i64 xchan, .int .i64 xcase_, .int .i64 xvalue, .int .i64 0, .bool false, .bool false]) rfl rfl rfl fun w H => ?_
              refine H.st0 (cs' := #[.int .i64 xkind, .int .i64 xg, .int .i64 xchan, .int .i64 xcase_, .int .i64 xvalue, .int .i64 xmate, .bool false, .bool false]) rfl rfl rfl fun w H => ?_
              refine H.st0 (cs' := #[.int .i64 xkind, .int .i64 xg, .int .i64 xchan, .int .i64 xcase_, .int .i64 xvalue, .int .i64 xmate, .bool xsend, .bool false]) rfl rfl rfl fun w H => ?_
              refine H.st0 (cs' := #[.int .i64 xkind, .int .i64 xg, .int .i64 xchan, .int .i64 xcase_, .int .i64 xvalue, .int .i64 xmate, .bool xsend, .bool xok]) rfl rfl rfl fun w H => ?_
              refine ⟨?_⟩
              refine H.ldi 0 rfl (v := .int .i64 xkind) rfl ?_
              refine BB.vr fun q2 e2 => ?_
              cases q2
              · skip
                have h2 := beq_eq_false_iff_ne.1 e2
                refine Cn.no ?_
                refine ⟨?_⟩
                refine H.ldi 0 rfl (v := .int .i64 xkind) rfl ?_
                refine BB.vr fun q3 e3 => ?_
                cases q3
                · skip
                  have h3 := bne_eq_false_iff_eq.1 e3
                  subst h3
                  refine BB.no (decide_eq_false (by omega)) ?_
                  refine Cn.no ?_
                  refine ⟨?_⟩
                  refine IW.by (m := (↑m - 1)) (wrap_id (by omega) (by omega)) ?_
                  exact ⟨(((m : Int) - 1), m), ⟨rfl, trivial⟩, ⟨⟨rfl, by omega, by rw [hb, backR_step hdx]; simp [*]⟩, H.tl⟩, (Nat.lt_succ_self m)⟩
                · skip
                  have h3 := bne_iff_ne.1 e3
                  refine Cn.yes ?_
                  refine ⟨?_⟩
                  refine ret1 (fn := Tryd.f21) (.bool false) rfl (by rfl) ?_
                  have hno : ¬ (0 < i ∧ servesF (l.getD (i - 1) evz) = true) := by omega
                  have hc : servedR l i = (false) := by rw [servedR_else hd hno, if_neg (by simp), if_neg (by simp), hb]; rw [backR_step hdx]; simp [*]
                  rw [hc]
                  exact ⟨rfl, H.tl.tl⟩
              · skip
                have h2 := eq_of_beq e2
                subst h2
                refine Cn.yes ?_
                refine ⟨?_⟩
                refine H.ldi 0 rfl (v := .int .i64 xg) rfl ?_
                refine H.ldi 1 rfl (v := .int .i64 mate) rfl ?_
                refine BB.vr fun q4 e4 => ?_
                cases q4
                · skip
                  have h4 := beq_eq_false_iff_ne.1 e4
                  refine ret1 (fn := Tryd.f21) (.bool false) rfl (by rfl) ?_
                  have hno : ¬ (0 < i ∧ servesF (l.getD (i - 1) evz) = true) := by omega
                  have hc : servedR l i = (false) := by rw [servedR_else hd hno, if_neg (by simp), if_neg (by simp), hb]; rw [backR_step hdx]; simp [*]
                  rw [hc]
                  exact ⟨rfl, H.tl.tl⟩
                · skip
                  have h4 := eq_of_beq e4
                  subst h4
                  refine H.ldi 0 rfl (v := .int .i64 xchan) rfl ?_
                  refine H.ldi 1 rfl (v := .int .i64 chan) rfl ?_
                  refine BB.k ?_
                  refine ret1 (fn := Tryd.f21) (.bool (xchan == chan)) rfl (by rfl) ?_
                  have hno : ¬ (0 < i ∧ servesF (l.getD (i - 1) evz) = true) := by omega
                  have hc : servedR l i = (xchan == chan) := by rw [servedR_else hd hno, if_neg (by simp), if_neg (by simp), hb]; rw [backR_step hdx]; simp [*]
                  rw [hc]
                  exact ⟨rfl, H.tl.tl⟩
            · skip
              obtain ⟨ey0, ey1⟩ : ∃ e, l[(m - 1)]'(by omega) = e := ⟨_, rfl⟩
              have hy : l[(m - 1)]? = some ey0 := by rw [← ey1]; exact List.getElem?_eq_getElem _
              clear ey1
              obtain ⟨ykind, yg, ychan, ycase_, yvalue, ymate, ysend, yok⟩ := ey0
              have hdy : l.getD (m - 1) evz = ⟨ykind, yg, ychan, ycase_, yvalue, ymate, ysend, yok⟩ := by rw [List.getD_eq_getElem?_getD, hy]; rfl
              refine ⟨?_⟩
              refine BB.yes (decide_eq_true (by omega)) ?_
              refine Cn.yes ?_
              refine ⟨?_⟩
              refine ⟨?_⟩
              refine Ix.at m 8 (by kernel_rfl) (rfl) (by omega) ?_
              refine H.ldE 1 rfl hA m 0 hx (v := .int .i64 xkind) rfl ?_
              refine H.ldE 1 rfl hA m 1 hx (v := .int .i64 xg) rfl ?_
              refine H.ldE 1 rfl hA m 2 hx (v := .int .i64 xchan) rfl ?_
              refine H.ldE 1 rfl hA m 3 hx (v := .int .i64 xcase_) rfl ?_
              refine H.ldE 1 rfl hA m 4 hx (v := .int .i64 xvalue) rfl ?_
              refine H.ldE 1 rfl hA m 5 hx (v := .int .i64 xmate) rfl ?_
              refine H.ldE 1 rfl hA m 6 hx (v := .bool xsend) rfl ?_
              refine H.ldE 1 rfl hA m 7 hx (v := .bool xok) rfl ?_
              refine Nw.as #[.int .i64 0, .int .i64 0, .int .i64 0, .int .i64 0, .int .i64 0, .int .i64 0, .bool false, .bool false] 39 rfl H fun b8 w H => ?_
              refine H.st0 (cs' := #[.int .i64 xkind, .int .i64 0, .int .i64 0, .int .i64 0, .int .i64 0, .int .i64 0, .bool false, .bool false]) rfl rfl rfl fun w H => ?_
              refine H.st0 (cs' := #[.int .i64 xkind, .int .i64 xg, .int .i64 0, .int .i64 0, .int .i64 0, .int .i64 0, .bool false, .bool false]) rfl rfl rfl fun w H => ?_
              refine H.st0 (cs' := #[.int .i64 xkind, .int .i64 xg, .int .i64 xchan, .int .i64 0, .int .i64 0, .int .i64 0, .bool false, .bool false]) rfl rfl rfl fun w H => ?_
              refine H.st0 (cs' := #[.int .i64 xkind, .int .i64 xg, .int .i64 xchan, .int .i64 xcase_, .int .i64 0, .int .i64 0, .bool false, .bool false]) rfl rfl rfl fun w H => ?_
              refine H.st0 (cs' := #[.int .i64 xkind, .int .i64 xg, .int .i64 xchan, .int .i64 xcase_, .int .i64 xvalue, .int .i64 0, .bool false, .bool false]) rfl rfl rfl fun w H => ?_
              refine H.st0 (cs' := #[.int .i64 xkind, .int .i64 xg, .int .i64 xchan, .int .i64 xcase_, .int .i64 xvalue, .int .i64 xmate, .bool false, .bool false]) rfl rfl rfl fun w H => ?_
              refine H.st0 (cs' := #[.int .i64 xkind, .int .i64 xg, .int .i64 xchan, .int .i64 xcase_, .int .i64 xvalue, .int .i64 xmate, .bool xsend, .bool false]) rfl rfl rfl fun w H => ?_
              refine H.st0 (cs' := #[.int .i64 xkind, .int .i64 xg, .int .i64 xchan, .int .i64 xcase_, .int .i64 xvalue, .int .i64 xmate, .bool xsend, .bool xok]) rfl rfl rfl fun w H => ?_
              refine ⟨?_⟩
              refine H.ldi 0 rfl (v := .int .i64 xkind) rfl ?_
              refine BB.vr fun q5 e5 => ?_
              cases q5
              · skip
                have h5 := beq_eq_false_iff_ne.1 e5
                refine Cn.no ?_
                refine ⟨?_⟩
                refine H.ldi 0 rfl (v := .int .i64 xkind) rfl ?_
                refine BB.vr fun q6 e6 => ?_
                cases q6
                · skip
                  have h6 := bne_eq_false_iff_eq.1 e6
                  subst h6
                  refine BB.yes (decide_eq_true (by omega)) ?_
                  refine IW.by (m := (↑m - 1)) (wrap_id (by omega) (by omega)) ?_
                  refine Ix.at (m - 1) 8 (by kernel_rfl) (by omega) (by omega) ?_
                  refine H.ldE 2 rfl hA (m - 1) 0 hy (v := .int .i64 ykind) rfl ?_
                  refine H.ldE 2 rfl hA (m - 1) 1 hy (v := .int .i64 yg) rfl ?_
                  refine H.ldE 2 rfl hA (m - 1) 2 hy (v := .int .i64 ychan) rfl ?_
                  refine H.ldE 2 rfl hA (m - 1) 3 hy (v := .int .i64 ycase_) rfl ?_
                  refine H.ldE 2 rfl hA (m - 1) 4 hy (v := .int .i64 yvalue) rfl ?_
                  refine H.ldE 2 rfl hA (m - 1) 5 hy (v := .int .i64 ymate) rfl ?_
                  refine H.ldE 2 rfl hA (m - 1) 6 hy (v := .bool ysend) rfl ?_
                  refine H.ldE 2 rfl hA (m - 1) 7 hy (v := .bool yok) rfl ?_
                  refine Cl.sl (by kernel_rfl) (r_serves H ⟨ykind, yg, ychan, ycase_, yvalue, ymate, ysend, yok⟩) fun w H => ?_
                  refine BB.vr fun q7 e7 => ?_
                  cases q7
                  · skip
                    refine Cn.no ?_
                    refine ⟨?_⟩
                    refine IW.by (m := (↑m - 1)) (wrap_id (by omega) (by omega)) ?_
                    exact ⟨(((m : Int) - 1), m), ⟨rfl, trivial⟩, ⟨⟨rfl, by omega, by rw [hb, backR_step hdx]; simp [*]⟩, H.tl⟩, (Nat.lt_succ_self m)⟩
                  · skip
                    refine Cn.yes ?_
                    refine ⟨?_⟩
                    refine ret1 (fn := Tryd.f21) (.bool false) rfl (by rfl) ?_
                    have hno : ¬ (0 < i ∧ servesF (l.getD (i - 1) evz) = true) := by omega
                    have hc : servedR l i = (false) := by rw [servedR_else hd hno, if_neg (by simp), if_neg (by simp), hb]; rw [backR_step hdx]; simp [*]
                    rw [hc]
                    exact ⟨rfl, H.tl.tl⟩
                · skip
                  have h6 := bne_iff_ne.1 e6
                  refine Cn.yes ?_
                  refine ⟨?_⟩
                  refine ret1 (fn := Tryd.f21) (.bool false) rfl (by rfl) ?_
                  have hno : ¬ (0 < i ∧ servesF (l.getD (i - 1) evz) = true) := by omega
                  have hc : servedR l i = (false) := by rw [servedR_else hd hno, if_neg (by simp), if_neg (by simp), hb]; rw [backR_step hdx]; simp [*]
                  rw [hc]
                  exact ⟨rfl, H.tl.tl⟩
              · skip
                have h5 := eq_of_beq e5
                subst h5
                refine Cn.yes ?_
                refine ⟨?_⟩
                refine H.ldi 0 rfl (v := .int .i64 xg) rfl ?_
                refine H.ldi 1 rfl (v := .int .i64 mate) rfl ?_
                refine BB.vr fun q8 e8 => ?_
                cases q8
                · skip
                  have h8 := beq_eq_false_iff_ne.1 e8
                  refine ret1 (fn := Tryd.f21) (.bool false) rfl (by rfl) ?_
                  have hno : ¬ (0 < i ∧ servesF (l.getD (i - 1) evz) = true) := by omega
                  have hc : servedR l i = (false) := by rw [servedR_else hd hno, if_neg (by simp), if_neg (by simp), hb]; rw [backR_step hdx]; simp [*]
                  rw [hc]
                  exact ⟨rfl, H.tl.tl⟩
                · skip
                  have h8 := eq_of_beq e8
                  subst h8
                  refine H.ldi 0 rfl (v := .int .i64 xchan) rfl ?_
                  refine H.ldi 1 rfl (v := .int .i64 chan) rfl ?_
                  refine BB.k ?_
                  refine ret1 (fn := Tryd.f21) (.bool (xchan == chan)) rfl (by rfl) ?_
                  have hno : ¬ (0 < i ∧ servesF (l.getD (i - 1) evz) = true) := by omega
                  have hc : servedR l i = (xchan == chan) := by rw [servedR_else hd hno, if_neg (by simp), if_neg (by simp), hb]; rw [backR_step hdx]; simp [*]
                  rw [hc]
                  exact ⟨rfl, H.tl.tl⟩
        · skip
          refine Cn.yes ?_
          refine ⟨?_⟩
          refine ret1 (fn := Tryd.f21) (.bool false) rfl (by rfl) ?_
          have hno : ¬ (0 < i ∧ servesF (l.getD (i - 1) evz) = true) := by omega
          have hc : servedR l i = (false) := by rw [servedR_else hd hno]; simp [*]
          rw [hc]
          exact ⟨rfl, H.tl⟩
      · skip
        refine Cn.yes ?_
        refine ⟨?_⟩
        refine ret1 (fn := Tryd.f21) (.bool false) rfl (by rfl) ?_
        have hno : ¬ (0 < i ∧ servesF (l.getD (i - 1) evz) = true) := by omega
        have hc : servedR l i = (false) := by rw [servedR_else hd hno]; simp [*]
        rw [hc]
        exact ⟨rfl, H.tl⟩
    · skip
      have h1 := bne_iff_ne.1 e1
      refine Cn.yes ?_
      refine ⟨?_⟩
      refine ret1 (fn := Tryd.f21) (.bool true) rfl (by rfl) ?_
      have hno : ¬ (0 < i ∧ servesF (l.getD (i - 1) evz) = true) := by omega
      have hc : servedR l i = (true) := by rw [servedR_else hd hno]; simp [*]
      rw [hc]
      exact ⟨rfl, H.tl⟩
  · skip
    obtain ⟨es0, es1⟩ : ∃ e, l[(i - 1)]'(by omega) = e := ⟨_, rfl⟩
    have hs : l[(i - 1)]? = some es0 := by rw [← es1]; exact List.getElem?_eq_getElem _
    clear es1
    obtain ⟨skind, sg, schan, scase_, svalue, smate, ssend, sok⟩ := es0
    have hds : l.getD (i - 1) evz = ⟨skind, sg, schan, scase_, svalue, smate, ssend, sok⟩ := by rw [List.getD_eq_getElem?_getD, hs]; rfl
    refine calls_den (args := [_, _]) Tryd.func21 rfl (Nat.le_of_ble_eq_true (by kernel_rfl)) (by kernel_rfl) ?_
    refine ⟨?_⟩
    refine ⟨?_⟩
    refine Ix.at i 8 (by kernel_rfl) (rfl) (hi) ?_
    refine H.ldE 0 rfl hA i 0 he (v := .int .i64 kind) rfl ?_
    refine H.ldE 0 rfl hA i 1 he (v := .int .i64 g) rfl ?_
    refine H.ldE 0 rfl hA i 2 he (v := .int .i64 chan) rfl ?_
    refine H.ldE 0 rfl hA i 3 he (v := .int .i64 case_) rfl ?_
    refine H.ldE 0 rfl hA i 4 he (v := .int .i64 value) rfl ?_
    refine H.ldE 0 rfl hA i 5 he (v := .int .i64 mate) rfl ?_
    refine H.ldE 0 rfl hA i 6 he (v := .bool send) rfl ?_
    refine H.ldE 0 rfl hA i 7 he (v := .bool ok) rfl ?_
    refine Nw.as #[.int .i64 0, .int .i64 0, .int .i64 0, .int .i64 0, .int .i64 0, .int .i64 0, .bool false, .bool false] 39 rfl H fun b5 w H => ?_
    refine H.st0 (cs' := #[.int .i64 kind, .int .i64 0, .int .i64 0, .int .i64 0, .int .i64 0, .int .i64 0, .bool false, .bool false]) rfl rfl rfl fun w H => ?_
    refine H.st0 (cs' := #[.int .i64 kind, .int .i64 g, .int .i64 0, .int .i64 0, .int .i64 0, .int .i64 0, .bool false, .bool false]) rfl rfl rfl fun w H => ?_
    refine H.st0 (cs' := #[.int .i64 kind, .int .i64 g, .int .i64 chan, .int .i64 0, .int .i64 0, .int .i64 0, .bool false, .bool false]) rfl rfl rfl fun w H => ?_
    refine H.st0 (cs' := #[.int .i64 kind, .int .i64 g, .int .i64 chan, .int .i64 case_, .int .i64 0, .int .i64 0, .bool false, .bool false]) rfl rfl rfl fun w H => ?_
    refine H.st0 (cs' := #[.int .i64 kind, .int .i64 g, .int .i64 chan, .int .i64 case_, .int .i64 value, .int .i64 0, .bool false, .bool false]) rfl rfl rfl fun w H => ?_
    refine H.st0 (cs' := #[.int .i64 kind, .int .i64 g, .int .i64 chan, .int .i64 case_, .int .i64 value, .int .i64 mate, .bool false, .bool false]) rfl rfl rfl fun w H => ?_
    refine H.st0 (cs' := #[.int .i64 kind, .int .i64 g, .int .i64 chan, .int .i64 case_, .int .i64 value, .int .i64 mate, .bool send, .bool false]) rfl rfl rfl fun w H => ?_
    refine H.st0 (cs' := #[.int .i64 kind, .int .i64 g, .int .i64 chan, .int .i64 case_, .int .i64 value, .int .i64 mate, .bool send, .bool ok]) rfl rfl rfl fun w H => ?_
    refine ⟨?_⟩
    refine BB.yes (decide_eq_true (by omega)) ?_
    refine IW.by (m := (↑i - 1)) (wrap_id (by omega) (by omega)) ?_
    refine Ix.at (i - 1) 8 (by kernel_rfl) (by omega) (by omega) ?_
    refine H.ldE 1 rfl hA (i - 1) 0 hs (v := .int .i64 skind) rfl ?_
    refine H.ldE 1 rfl hA (i - 1) 1 hs (v := .int .i64 sg) rfl ?_
    refine H.ldE 1 rfl hA (i - 1) 2 hs (v := .int .i64 schan) rfl ?_
    refine H.ldE 1 rfl hA (i - 1) 3 hs (v := .int .i64 scase_) rfl ?_
    refine H.ldE 1 rfl hA (i - 1) 4 hs (v := .int .i64 svalue) rfl ?_
    refine H.ldE 1 rfl hA (i - 1) 5 hs (v := .int .i64 smate) rfl ?_
    refine H.ldE 1 rfl hA (i - 1) 6 hs (v := .bool ssend) rfl ?_
    refine H.ldE 1 rfl hA (i - 1) 7 hs (v := .bool sok) rfl ?_
    refine Cl.sl (by kernel_rfl) (r_serves H ⟨skind, sg, schan, scase_, svalue, smate, ssend, sok⟩) fun w H => ?_
    refine BB.vr fun q1 e1 => ?_
    cases q1
    · skip
      refine Cn.no ?_
      refine ⟨?_⟩
      refine H.ldi 0 rfl (v := .int .i64 kind) rfl ?_
      refine BB.vr fun q2 e2 => ?_
      cases q2
      · skip
        have h2 := bne_eq_false_iff_eq.1 e2
        subst h2
        refine Cn.no ?_
        refine ⟨?_⟩
        refine H.ldi 0 rfl (v := .bool ok) rfl ?_
        refine BB.k ?_
        cases ok
        · skip
          refine H.ldi 0 rfl (v := .bool send) rfl ?_
          refine BB.k ?_
          cases send
          · skip
            refine Cn.no ?_
            refine ⟨?_⟩
            refine IW.by (m := (↑i - 1)) (wrap_id (by omega) (by omega)) ?_
            refine ⟨?_⟩
            refine den.loop (ι := Int × Nat) [(4, 4), (7, 8), (86, 123)] (by kernel_rfl) (fun (kk, j) => [(7, .int .i64 kk)]) (fun (kk, j) w => (kk = (j : Int) - 1 ∧ j ≤ i ∧ backR l ⟨7, g, chan, case_, value, mate, false, false⟩ i = backR l ⟨7, g, chan, case_, value, mate, false, false⟩ j) ∧ SL w (row b5 #[.int .i64 7, .int .i64 g, .int .i64 chan, .int .i64 case_, .int .i64 value, .int .i64 mate, .bool false, .bool false] 39 :: A :: F)) (fun (kk, j) => j) ((i : Int) - 1, i) ⟨rfl, trivial⟩ ⟨⟨rfl, Nat.le_refl _, rfl⟩, H⟩ ?_
            rintro ⟨kk, j⟩ s w ⟨hc, H⟩
            obtain ⟨hkk, hj, hb⟩ := hc
            cases j with
            | zero =>
              obtain rfl : kk = -1 := by omega
              refine ⟨?_⟩
              refine BB.no rfl ?_
              refine Cn.no ?_
              refine ⟨?_⟩
              refine ret1 (fn := Tryd.f21) (.bool false) rfl (by rfl) ?_
              have hno : ¬ (0 < i ∧ servesF (l.getD (i - 1) evz) = true) := by rw [hds]; rintro ⟨_, h⟩; simp_all
              have hc : servedR l i = (false) := by rw [servedR_else hd hno, if_neg (by simp), if_neg (by simp), hb]; rfl
              rw [hc]
              exact ⟨rfl, H.tl⟩
            | succ m =>
              obtain rfl : kk = (m : Int) := by omega
              obtain ⟨ex0, ex1⟩ : ∃ e, l[m]'(by omega) = e := ⟨_, rfl⟩
              have hx : l[m]? = some ex0 := by rw [← ex1]; exact List.getElem?_eq_getElem _
              clear ex1
              obtain ⟨xkind, xg, xchan, xcase_, xvalue, xmate, xsend, xok⟩ := ex0
              have hdx : l.getD m evz = ⟨xkind, xg, xchan, xcase_, xvalue, xmate, xsend, xok⟩ := by rw [List.getD_eq_getElem?_getD, hx]; rfl
              rcases Nat.eq_zero_or_pos m with hm0 | hm0
              · skip
                refine ⟨?_⟩
                refine BB.yes (decide_eq_true (by omega)) ?_
                refine Cn.yes ?_
                refine ⟨?_⟩
                refine ⟨?_⟩
                refine Ix.at m 8 (by kernel_rfl) (rfl) (by omega) ?_
                refine H.ldE 1 rfl hA m 0 hx (v := .int .i64 xkind) rfl ?_
                refine H.ldE 1 rfl hA m 1 hx (v := .int .i64 xg) rfl ?_
                refine H.ldE 1 rfl hA m 2 hx (v := .int .i64 xchan) rfl ?_
                refine H.ldE 1 rfl hA m 3 hx (v := .int .i64 xcase_) rfl ?_
                refine H.ldE 1 rfl hA m 4 hx (v := .int .i64 xvalue) rfl ?_
                refine H.ldE 1 rfl hA m 5 hx (v := .int .i64 xmate) rfl ?_
                refine H.ldE 1 rfl hA m 6 hx (v := .bool xsend) rfl ?_
                refine H.ldE 1 rfl hA m 7 hx (v := .bool xok) rfl ?_
                refine Nw.as #[.int .i64 0, .int .i64 0, .int .i64 0, .int .i64 0, .int .i64 0, .int .i64 0, .bool false, .bool false] 39 rfl H fun b8 w H => ?_
                refine H.st0 (cs' := #[.int .i64 xkind, .int .i64 0, .int .i64 0, .int .i64 0, .int .i64 0, .int .i64 0, .bool false, .bool false]) rfl rfl rfl fun w H => ?_
                refine H.st0 (cs' := #[.int .i64 xkind, .int .i64 xg, .int .i64 0, .int .i64 0, .int .i64 0, .int .i64 0, .bool false, .bool false]) rfl rfl rfl fun w H => ?_
                refine H.st0 (cs' := #[.int .i64 xkind, .int .i64 xg, .int .i64 xchan, .int .i64 0, .int .i64 0, .int .i64 0, .bool false, .bool false]) rfl rfl rfl fun w H => ?_
                refine H.st0 (cs' := #[.int .i64 xkind, .int .i64 xg, .int .i64 xchan, .int .i64 xcase_, .int .i64 0, .int .i64 0, .bool false, .bool false]) rfl rfl rfl fun w H => ?_
                refine H.st0 (cs' := #[.int .i64 xkind, .int .i64 xg, .int .i64 xchan, .int .i64 xcase_, .int .i64 xvalue, .int .i64 0, .bool false, .bool false]) rfl rfl rfl fun w H => ?_
                refine H.st0 (cs' := #[.int .i64 xkind, .int .i64 xg, .int .i64 xchan, .int .i64 xcase_, .int .i64 xvalue, .int .i64 xmate, .bool false, .bool false]) rfl rfl rfl fun w H => ?_
                refine H.st0 (cs' := #[.int .i64 xkind, .int .i64 xg, .int .i64 xchan, .int .i64 xcase_, .int .i64 xvalue, .int .i64 xmate, .bool xsend, .bool false]) rfl rfl rfl fun w H => ?_
                refine H.st0 (cs' := #[.int .i64 xkind, .int .i64 xg, .int .i64 xchan, .int .i64 xcase_, .int .i64 xvalue, .int .i64 xmate, .bool xsend, .bool xok]) rfl rfl rfl fun w H => ?_
                refine ⟨?_⟩
                refine H.ldi 0 rfl (v := .int .i64 xkind) rfl ?_
                refine BB.vr fun q3 e3 => ?_
                cases q3
                · skip
                  have h3 := beq_eq_false_iff_ne.1 e3
                  refine Cn.no ?_
                  refine ⟨?_⟩
                  refine H.ldi 0 rfl (v := .int .i64 xkind) rfl ?_
                  refine BB.vr fun q4 e4 => ?_
                  cases q4
                  · skip
                    have h4 := bne_eq_false_iff_eq.1 e4
                    subst h4
                    refine BB.no (decide_eq_false (by omega)) ?_
                    refine Cn.no ?_
                    refine ⟨?_⟩
                    refine IW.by (m := (↑m - 1)) (wrap_id (by omega) (by omega)) ?_
                    exact ⟨(((m : Int) - 1), m), ⟨rfl, trivial⟩, ⟨⟨rfl, by omega, by rw [hb, backR_step hdx]; simp [*]⟩, H.tl⟩, (Nat.lt_succ_self m)⟩
                  · skip
                    have h4 := bne_iff_ne.1 e4
                    refine Cn.yes ?_
                    refine ⟨?_⟩
                    refine ret1 (fn := Tryd.f21) (.bool false) rfl (by rfl) ?_
                    have hno : ¬ (0 < i ∧ servesF (l.getD (i - 1) evz) = true) := by rw [hds]; rintro ⟨_, h⟩; simp_all
                    have hc : servedR l i = (false) := by rw [servedR_else hd hno, if_neg (by simp), if_neg (by simp), hb]; rw [backR_step hdx]; simp [*]
                    rw [hc]
                    exact ⟨rfl, H.tl.tl⟩
                · skip
                  have h3 := eq_of_beq e3
                  subst h3
                  refine Cn.yes ?_
                  refine ⟨?_⟩
                  refine H.ldi 0 rfl (v := .int .i64 xg) rfl ?_
                  refine H.ldi 1 rfl (v := .int .i64 mate) rfl ?_
                  refine BB.vr fun q5 e5 => ?_
                  cases q5
                  · skip
                    have h5 := beq_eq_false_iff_ne.1 e5
                    refine ret1 (fn := Tryd.f21) (.bool false) rfl (by rfl) ?_
                    have hno : ¬ (0 < i ∧ servesF (l.getD (i - 1) evz) = true) := by rw [hds]; rintro ⟨_, h⟩; simp_all
                    have hc : servedR l i = (false) := by rw [servedR_else hd hno, if_neg (by simp), if_neg (by simp), hb]; rw [backR_step hdx]; simp [*]
                    rw [hc]
                    exact ⟨rfl, H.tl.tl⟩
                  · skip
                    have h5 := eq_of_beq e5
                    subst h5
                    refine H.ldi 0 rfl (v := .int .i64 xchan) rfl ?_
                    refine H.ldi 1 rfl (v := .int .i64 chan) rfl ?_
                    refine BB.k ?_
                    refine ret1 (fn := Tryd.f21) (.bool (xchan == chan)) rfl (by rfl) ?_
                    have hno : ¬ (0 < i ∧ servesF (l.getD (i - 1) evz) = true) := by rw [hds]; rintro ⟨_, h⟩; simp_all
                    have hc : servedR l i = (xchan == chan) := by rw [servedR_else hd hno, if_neg (by simp), if_neg (by simp), hb]; rw [backR_step hdx]; simp [*]
                    rw [hc]
                    exact ⟨rfl, H.tl.tl⟩
              · skip
                obtain ⟨ey0, ey1⟩ : ∃ e, l[(m - 1)]'(by omega) = e := ⟨_, rfl⟩
                have hy : l[(m - 1)]? = some ey0 := by rw [← ey1]; exact List.getElem?_eq_getElem _
                clear ey1
                obtain ⟨ykind, yg, ychan, ycase_, yvalue, ymate, ysend, yok⟩ := ey0
                have hdy : l.getD (m - 1) evz = ⟨ykind, yg, ychan, ycase_, yvalue, ymate, ysend, yok⟩ := by rw [List.getD_eq_getElem?_getD, hy]; rfl
                refine ⟨?_⟩
                refine BB.yes (decide_eq_true (by omega)) ?_
                refine Cn.yes ?_
                refine ⟨?_⟩
                refine ⟨?_⟩
                refine Ix.at m 8 (by kernel_rfl) (rfl) (by omega) ?_
                refine H.ldE 1 rfl hA m 0 hx (v := .int .i64 xkind) rfl ?_
                refine H.ldE 1 rfl hA m 1 hx (v := .int .i64 xg) rfl ?_
                refine H.ldE 1 rfl hA m 2 hx (v := .int .i64 xchan) rfl ?_
                refine H.ldE 1 rfl hA m 3 hx (v := .int .i64 xcase_) rfl ?_
                refine H.ldE 1 rfl hA m 4 hx (v := .int .i64 xvalue) rfl ?_
                refine H.ldE 1 rfl hA m 5 hx (v := .int .i64 xmate) rfl ?_
                refine H.ldE 1 rfl hA m 6 hx (v := .bool xsend) rfl ?_
                refine H.ldE 1 rfl hA m 7 hx (v := .bool xok) rfl ?_
                refine Nw.as #[.int .i64 0, .int .i64 0, .int .i64 0, .int .i64 0, .int .i64 0, .int .i64 0, .bool false, .bool false] 39 rfl H fun b8 w H => ?_
                refine H.st0 (cs' := #[.int .i64 xkind, .int .i64 0, .int .i64 0, .int .i64 0, .int .i64 0, .int .i64 0, .bool false, .bool false]) rfl rfl rfl fun w H => ?_
                refine H.st0 (cs' := #[.int .i64 xkind, .int .i64 xg, .int .i64 0, .int .i64 0, .int .i64 0, .int .i64 0, .bool false, .bool false]) rfl rfl rfl fun w H => ?_
                refine H.st0 (cs' := #[.int .i64 xkind, .int .i64 xg, .int .i64 xchan, .int .i64 0, .int .i64 0, .int .i64 0, .bool false, .bool false]) rfl rfl rfl fun w H => ?_
                refine H.st0 (cs' := #[.int .i64 xkind, .int .i64 xg, .int .i64 xchan, .int .i64 xcase_, .int .i64 0, .int .i64 0, .bool false, .bool false]) rfl rfl rfl fun w H => ?_
                refine H.st0 (cs' := #[.int .i64 xkind, .int .i64 xg, .int .i64 xchan, .int .i64 xcase_, .int .i64 xvalue, .int .i64 0, .bool false, .bool false]) rfl rfl rfl fun w H => ?_
                refine H.st0 (cs' := #[.int .i64 xkind, .int .i64 xg, .int .i64 xchan, .int .i64 xcase_, .int .i64 xvalue, .int .i64 xmate, .bool false, .bool false]) rfl rfl rfl fun w H => ?_
                refine H.st0 (cs' := #[.int .i64 xkind, .int .i64 xg, .int .i64 xchan, .int .i64 xcase_, .int .i64 xvalue, .int .i64 xmate, .bool xsend, .bool false]) rfl rfl rfl fun w H => ?_
                refine H.st0 (cs' := #[.int .i64 xkind, .int .i64 xg, .int .i64 xchan, .int .i64 xcase_, .int .i64 xvalue, .int .i64 xmate, .bool xsend, .bool xok]) rfl rfl rfl fun w H => ?_
                refine ⟨?_⟩
                refine H.ldi 0 rfl (v := .int .i64 xkind) rfl ?_
                refine BB.vr fun q6 e6 => ?_
                cases q6
                · skip
                  have h6 := beq_eq_false_iff_ne.1 e6
                  refine Cn.no ?_
                  refine ⟨?_⟩
                  refine H.ldi 0 rfl (v := .int .i64 xkind) rfl ?_
                  refine BB.vr fun q7 e7 => ?_
                  cases q7
                  · skip
                    have h7 := bne_eq_false_iff_eq.1 e7
                    subst h7
                    refine BB.yes (decide_eq_true (by omega)) ?_
                    refine IW.by (m := (↑m - 1)) (wrap_id (by omega) (by omega)) ?_
                    refine Ix.at (m - 1) 8 (by kernel_rfl) (by omega) (by omega) ?_
                    refine H.ldE 2 rfl hA (m - 1) 0 hy (v := .int .i64 ykind) rfl ?_
                    refine H.ldE 2 rfl hA (m - 1) 1 hy (v := .int .i64 yg) rfl ?_
                    refine H.ldE 2 rfl hA (m - 1) 2 hy (v := .int .i64 ychan) rfl ?_
                    refine H.ldE 2 rfl hA (m - 1) 3 hy (v := .int .i64 ycase_) rfl ?_
                    refine H.ldE 2 rfl hA (m - 1) 4 hy (v := .int .i64 yvalue) rfl ?_
                    refine H.ldE 2 rfl hA (m - 1) 5 hy (v := .int .i64 ymate) rfl ?_
                    refine H.ldE 2 rfl hA (m - 1) 6 hy (v := .bool ysend) rfl ?_
                    refine H.ldE 2 rfl hA (m - 1) 7 hy (v := .bool yok) rfl ?_
                    refine Cl.sl (by kernel_rfl) (r_serves H ⟨ykind, yg, ychan, ycase_, yvalue, ymate, ysend, yok⟩) fun w H => ?_
                    refine BB.vr fun q8 e8 => ?_
                    cases q8
                    · skip
                      refine Cn.no ?_
                      refine ⟨?_⟩
                      refine IW.by (m := (↑m - 1)) (wrap_id (by omega) (by omega)) ?_
                      exact ⟨(((m : Int) - 1), m), ⟨rfl, trivial⟩, ⟨⟨rfl, by omega, by rw [hb, backR_step hdx]; simp [*]⟩, H.tl⟩, (Nat.lt_succ_self m)⟩
                    · skip
                      refine Cn.yes ?_
                      refine ⟨?_⟩
                      refine ret1 (fn := Tryd.f21) (.bool false) rfl (by rfl) ?_
                      have hno : ¬ (0 < i ∧ servesF (l.getD (i - 1) evz) = true) := by rw [hds]; rintro ⟨_, h⟩; simp_all
                      have hc : servedR l i = (false) := by rw [servedR_else hd hno, if_neg (by simp), if_neg (by simp), hb]; rw [backR_step hdx]; simp [*]
                      rw [hc]
                      exact ⟨rfl, H.tl.tl⟩
                  · skip
                    have h7 := bne_iff_ne.1 e7
                    refine Cn.yes ?_
                    refine ⟨?_⟩
                    refine ret1 (fn := Tryd.f21) (.bool false) rfl (by rfl) ?_
                    have hno : ¬ (0 < i ∧ servesF (l.getD (i - 1) evz) = true) := by rw [hds]; rintro ⟨_, h⟩; simp_all
                    have hc : servedR l i = (false) := by rw [servedR_else hd hno, if_neg (by simp), if_neg (by simp), hb]; rw [backR_step hdx]; simp [*]
                    rw [hc]
                    exact ⟨rfl, H.tl.tl⟩
                · skip
                  have h6 := eq_of_beq e6
                  subst h6
                  refine Cn.yes ?_
                  refine ⟨?_⟩
                  refine H.ldi 0 rfl (v := .int .i64 xg) rfl ?_
                  refine H.ldi 1 rfl (v := .int .i64 mate) rfl ?_
                  refine BB.vr fun q9 e9 => ?_
                  cases q9
                  · skip
                    have h9 := beq_eq_false_iff_ne.1 e9
                    refine ret1 (fn := Tryd.f21) (.bool false) rfl (by rfl) ?_
                    have hno : ¬ (0 < i ∧ servesF (l.getD (i - 1) evz) = true) := by rw [hds]; rintro ⟨_, h⟩; simp_all
                    have hc : servedR l i = (false) := by rw [servedR_else hd hno, if_neg (by simp), if_neg (by simp), hb]; rw [backR_step hdx]; simp [*]
                    rw [hc]
                    exact ⟨rfl, H.tl.tl⟩
                  · skip
                    have h9 := eq_of_beq e9
                    subst h9
                    refine H.ldi 0 rfl (v := .int .i64 xchan) rfl ?_
                    refine H.ldi 1 rfl (v := .int .i64 chan) rfl ?_
                    refine BB.k ?_
                    refine ret1 (fn := Tryd.f21) (.bool (xchan == chan)) rfl (by rfl) ?_
                    have hno : ¬ (0 < i ∧ servesF (l.getD (i - 1) evz) = true) := by rw [hds]; rintro ⟨_, h⟩; simp_all
                    have hc : servedR l i = (xchan == chan) := by rw [servedR_else hd hno, if_neg (by simp), if_neg (by simp), hb]; rw [backR_step hdx]; simp [*]
                    rw [hc]
                    exact ⟨rfl, H.tl.tl⟩
          · skip
            refine Cn.yes ?_
            refine ⟨?_⟩
            refine ret1 (fn := Tryd.f21) (.bool false) rfl (by rfl) ?_
            have hno : ¬ (0 < i ∧ servesF (l.getD (i - 1) evz) = true) := by rw [hds]; rintro ⟨_, h⟩; simp_all
            have hc : servedR l i = (false) := by rw [servedR_else hd hno]; simp [*]
            rw [hc]
            exact ⟨rfl, H.tl⟩
        · skip
          refine Cn.yes ?_
          refine ⟨?_⟩
          refine ret1 (fn := Tryd.f21) (.bool false) rfl (by rfl) ?_
          have hno : ¬ (0 < i ∧ servesF (l.getD (i - 1) evz) = true) := by rw [hds]; rintro ⟨_, h⟩; simp_all
          have hc : servedR l i = (false) := by rw [servedR_else hd hno]; simp [*]
          rw [hc]
          exact ⟨rfl, H.tl⟩
      · skip
        have h2 := bne_iff_ne.1 e2
        refine Cn.yes ?_
        refine ⟨?_⟩
        refine ret1 (fn := Tryd.f21) (.bool true) rfl (by rfl) ?_
        have hno : ¬ (0 < i ∧ servesF (l.getD (i - 1) evz) = true) := by rw [hds]; rintro ⟨_, h⟩; simp_all
        have hc : servedR l i = (true) := by rw [servedR_else hd hno]; simp [*]
        rw [hc]
        exact ⟨rfl, H.tl⟩
    · skip
      refine Cn.yes ?_
      refine ⟨?_⟩
      refine IW.by (m := (↑i - 1)) (wrap_id (by omega) (by omega)) ?_
      refine Ix.at (i - 1) 8 (by kernel_rfl) (by omega) (by omega) ?_
      refine H.ldE 1 rfl hA (i - 1) 0 hs (v := .int .i64 skind) rfl ?_
      refine H.ldE 1 rfl hA (i - 1) 1 hs (v := .int .i64 sg) rfl ?_
      refine H.ldE 1 rfl hA (i - 1) 2 hs (v := .int .i64 schan) rfl ?_
      refine H.ldE 1 rfl hA (i - 1) 3 hs (v := .int .i64 scase_) rfl ?_
      refine H.ldE 1 rfl hA (i - 1) 4 hs (v := .int .i64 svalue) rfl ?_
      refine H.ldE 1 rfl hA (i - 1) 5 hs (v := .int .i64 smate) rfl ?_
      refine H.ldE 1 rfl hA (i - 1) 6 hs (v := .bool ssend) rfl ?_
      refine H.ldE 1 rfl hA (i - 1) 7 hs (v := .bool sok) rfl ?_
      refine Nw.as #[.int .i64 0, .int .i64 0, .int .i64 0, .int .i64 0, .int .i64 0, .int .i64 0, .bool false, .bool false] 39 rfl H fun b6 w H => ?_
      refine H.st0 (cs' := #[.int .i64 skind, .int .i64 0, .int .i64 0, .int .i64 0, .int .i64 0, .int .i64 0, .bool false, .bool false]) rfl rfl rfl fun w H => ?_
      refine H.st0 (cs' := #[.int .i64 skind, .int .i64 sg, .int .i64 0, .int .i64 0, .int .i64 0, .int .i64 0, .bool false, .bool false]) rfl rfl rfl fun w H => ?_
      refine H.st0 (cs' := #[.int .i64 skind, .int .i64 sg, .int .i64 schan, .int .i64 0, .int .i64 0, .int .i64 0, .bool false, .bool false]) rfl rfl rfl fun w H => ?_
      refine H.st0 (cs' := #[.int .i64 skind, .int .i64 sg, .int .i64 schan, .int .i64 scase_, .int .i64 0, .int .i64 0, .bool false, .bool false]) rfl rfl rfl fun w H => ?_
      refine H.st0 (cs' := #[.int .i64 skind, .int .i64 sg, .int .i64 schan, .int .i64 scase_, .int .i64 svalue, .int .i64 0, .bool false, .bool false]) rfl rfl rfl fun w H => ?_
      refine H.st0 (cs' := #[.int .i64 skind, .int .i64 sg, .int .i64 schan, .int .i64 scase_, .int .i64 svalue, .int .i64 smate, .bool false, .bool false]) rfl rfl rfl fun w H => ?_
      refine H.st0 (cs' := #[.int .i64 skind, .int .i64 sg, .int .i64 schan, .int .i64 scase_, .int .i64 svalue, .int .i64 smate, .bool ssend, .bool false]) rfl rfl rfl fun w H => ?_
      refine H.st0 (cs' := #[.int .i64 skind, .int .i64 sg, .int .i64 schan, .int .i64 scase_, .int .i64 svalue, .int .i64 smate, .bool ssend, .bool sok]) rfl rfl rfl fun w H => ?_
      refine ⟨?_⟩
      refine H.ldi 1 rfl (v := .int .i64 kind) rfl ?_
      refine BB.vr fun q10 e10 => ?_
      cases q10
      · skip
        have h10 := beq_eq_false_iff_ne.1 e10
        refine ret1 (fn := Tryd.f21) (.bool false) rfl (by rfl) ?_
        have hc : servedR l i = (false) := by rw [servedR_first hd h0 hds (by assumption)]; first | (simp [*]; done) | (cases send <;> simp_all; done) | (cases send <;> cases ss <;> simp_all; done)
        rw [hc]
        exact ⟨rfl, H.tl.tl⟩
      · skip
        have h10 := eq_of_beq e10
        subst h10
        refine H.ldi 1 rfl (v := .int .i64 g) rfl ?_
        refine H.ldi 0 rfl (v := .int .i64 smate) rfl ?_
        refine BB.vr fun q11 e11 => ?_
        cases q11
        · skip
          have h11 := beq_eq_false_iff_ne.1 e11
          refine ret1 (fn := Tryd.f21) (.bool false) rfl (by rfl) ?_
          have hc : servedR l i = (false) := by rw [servedR_first hd h0 hds (by assumption)]; first | (simp [*]; done) | (cases send <;> simp_all; done) | (cases send <;> cases ss <;> simp_all; done)
          rw [hc]
          exact ⟨rfl, H.tl.tl⟩
        · skip
          have h11 := eq_of_beq e11
          subst h11
          refine H.ldi 1 rfl (v := .int .i64 mate) rfl ?_
          refine H.ldi 0 rfl (v := .int .i64 sg) rfl ?_
          refine BB.vr fun q12 e12 => ?_
          cases q12
          · skip
            have h12 := beq_eq_false_iff_ne.1 e12
            refine ret1 (fn := Tryd.f21) (.bool false) rfl (by rfl) ?_
            have hc : servedR l i = (false) := by rw [servedR_first hd h0 hds (by assumption)]; first | (simp [*]; done) | (cases send <;> simp_all; done) | (cases send <;> cases ss <;> simp_all; done)
            rw [hc]
            exact ⟨rfl, H.tl.tl⟩
          · skip
            have h12 := eq_of_beq e12
            subst h12
            refine H.ldi 1 rfl (v := .int .i64 chan) rfl ?_
            refine H.ldi 0 rfl (v := .int .i64 schan) rfl ?_
            refine BB.vr fun q13 e13 => ?_
            cases q13
            · skip
              have h13 := beq_eq_false_iff_ne.1 e13
              refine ret1 (fn := Tryd.f21) (.bool false) rfl (by rfl) ?_
              have hc : servedR l i = (false) := by rw [servedR_first hd h0 hds (by assumption)]; first | (simp [*]; done) | (cases send <;> simp_all; done) | (cases send <;> cases ss <;> simp_all; done)
              rw [hc]
              exact ⟨rfl, H.tl.tl⟩
            · skip
              have h13 := eq_of_beq e13
              subst h13
              refine H.ldi 1 rfl (v := .bool send) rfl ?_
              refine BB.k ?_
              refine H.ldi 0 rfl (v := .bool ssend) rfl ?_
              refine BB.k ?_
              refine BB.vr fun q14 e14 => ?_
              cases q14
              · skip
                refine ret1 (fn := Tryd.f21) (.bool false) rfl (by rfl) ?_
                have hc : servedR l i = (false) := by rw [servedR_first hd h0 hds (by assumption)]; first | (simp [*]; done) | (cases send <;> simp_all; done) | (cases send <;> cases ss <;> simp_all; done)
                rw [hc]
                exact ⟨rfl, H.tl.tl⟩
              · skip
                refine H.ldi 1 rfl (v := .bool ok) rfl ?_
                refine BB.k ?_
                cases ok
                · skip
                  refine ret1 (fn := Tryd.f21) (.bool false) rfl (by rfl) ?_
                  have hc : servedR l i = (false) := by rw [servedR_first hd h0 hds (by assumption)]; first | (simp [*]; done) | (cases send <;> simp_all; done) | (cases send <;> cases ss <;> simp_all; done)
                  rw [hc]
                  exact ⟨rfl, H.tl.tl⟩
                · skip
                  refine H.ldi 0 rfl (v := .bool ssend) rfl ?_
                  refine BB.k ?_
                  refine BB.vr fun q15 e15 => ?_
                  cases q15
                  · skip
                    have h15 : ssend = true := by simpa using e15
                    subst h15
                    refine H.ldi 1 rfl (v := .int .i64 value) rfl ?_
                    refine H.ldi 0 rfl (v := .int .i64 svalue) rfl ?_
                    refine BB.k ?_
                    refine ret1 (fn := Tryd.f21) (.bool (value == svalue)) rfl (by rfl) ?_
                    have hc : servedR l i = (value == svalue) := by rw [servedR_first hd h0 hds (by assumption)]; first | (simp [*]; done) | (cases send <;> simp_all; done) | (cases send <;> cases ss <;> simp_all; done)
                    rw [hc]
                    exact ⟨rfl, H.tl.tl⟩
                  · skip
                    have h15 : ssend = false := by simpa using e15
                    subst h15
                    refine ret1 (fn := Tryd.f21) (.bool true) rfl (by rfl) ?_
                    have hc : servedR l i = (true) := by rw [servedR_first hd h0 hds (by assumption)]; first | (simp [*]; done) | (cases send <;> simp_all; done) | (cases send <;> cases ss <;> simp_all; done)
                    rw [hc]
                    exact ⟨rfl, H.tl.tl⟩

end Go.Proofs.YtoejhelhgfipkaaDoor
