/- Gauge: the reference. -/
import Derived.Test.YtoejhelhgfipkaaDoorGaugeR2
namespace Go.Proofs.YtoejhelhgfipkaaDoor
set_option linter.unusedVariables false
set_option linter.unusedSimpArgs false
open Go.RowKit
set_option maxRecDepth 100000
def insFeed (l : List Ev) (k : Nat) (e : Ev) (buf : List Int) : List Int := if e.kind = 3 then buf ++ [e.value] else if 0 ≤ e.mate ∧ decide (k + 1 = l.length) = false then buf ++ [(l.getD (k + 1) evz).value] else buf
theorem insStep_feed {l : List Ev} {c : Int} {k : Nat} {s : InsM} {x : Ev} (hd : l.getD k evz = x) (hc : x.chan = c) (hk : ¬ (x.kind ≠ 3 ∧ (x.kind ≠ 4 ∨ x.ok = false))) : insStep l c k s =
    (if x.kind = 4 ∨ 0 ≤ x.mate then
      match insFeed l k x s.buf with
      | v :: L => ⟨if x.kind = 2 then x.value else s.size, L, if x.kind = 5 then true else s.closed, v == x.value && decide ((L.length : Int) ≤ (if x.kind = 2 then x.value else s.size))⟩
      | [] => ⟨if x.kind = 2 then x.value else s.size, [], if x.kind = 5 then true else s.closed, (decide (0 ≤ x.mate) && decide (k + 1 = l.length)) && decide ((0 : Int) ≤ (if x.kind = 2 then x.value else s.size))⟩
     else ⟨if x.kind = 2 then x.value else s.size, insFeed l k x s.buf, if x.kind = 5 then true else s.closed, true && decide (((insFeed l k x s.buf).length : Int) ≤ (if x.kind = 2 then x.value else s.size))⟩) := by
  subst hd
  unfold insStep
  dsimp only
  rw [if_neg (by simpa using hc), if_neg hk]
  rfl
theorem last_eq {k n : Nat} (h : 0 < n) : ((k : Int) == ((n - 1 : Nat) : Int)) = decide (k + 1 = n) := by
  by_cases hk : k + 1 = n
  · rw [decide_eq_true hk, beq_iff_eq]; omega
  · rw [decide_eq_false hk, beq_eq_false_iff_ne]; omega

set_option maxHeartbeats 4000000 in
theorem r_in {w : World} {F : List Piece} {A : Piece} {lb lo lc n : Nat} {l : List Ev} {c : Int} (hA : EvA A lb lo l) (hn : n ≤ l.length) (hll : l.length ≤ 2000) (H : SL w (A :: F)) :
    Calls Tryd.prog 43 #[(.slice (some ⟨lb, lo, none⟩) l.length lc), .int .i64 c, .int .i64 (n : Int)] w fun o w' => ∃ v, o = .returned (.agg #[.int .i64 (insR l c n).size, v, .bool (insR l c n).closed, .bool (insR l c n).right]) ∧ SL w' (Slc 3 1 v (insR l c n).buf.length (ints (insR l c n).buf) :: A :: F) := by
  refine calls_den (args := [_, _, _]) Tryd.func43 rfl (Nat.le_of_ble_eq_true (by kernel_rfl)) (by kernel_rfl) ?_
  refine ⟨?_⟩
  refine Nw.as #[.int .i64 0, .slice none 0 0, .bool false, .bool false] 77 rfl H fun b6 w H => ?_
  refine ⟨?_⟩
  refine Mn.pure (.agg #[.int .i64 0, .slice none 0 0, .bool false, .bool true]) (by kernel_rfl) ?_
  refine Nw.as #[.int .i64 0, .slice none 0 0, .bool false, .bool false] 77 rfl H fun b7 w H => ?_
  refine H.st0 (cs' := #[.int .i64 0, .slice none 0 0, .bool false, .bool false]) rfl rfl rfl fun w H => ?_
  refine H.st0 (cs' := #[.int .i64 0, .slice none 0 0, .bool false, .bool false]) rfl rfl rfl fun w H => ?_
  refine H.st0 (cs' := #[.int .i64 0, .slice none 0 0, .bool false, .bool false]) rfl rfl rfl fun w H => ?_
  refine H.st0 (cs' := #[.int .i64 0, .slice none 0 0, .bool false, .bool true]) rfl rfl rfl fun w H => ?_
  refine ⟨?_⟩
  refine ⟨?_⟩
  refine den.loop (ι := Nat × Int × List Int × Bool × Bool × Option Addr × Nat) [(8, 11), (13, 127)] (by kernel_rfl) (fun (k, sz, bf, cl, rt, la, lcap) => [(8, .int .i64 ↑k)]) (fun (k, sz, bf, cl, rt, la, lcap) w => (k ≤ n ∧ insR l c k = ⟨sz, bf, cl, rt⟩ ∧ bf.length ≤ k) ∧ SL w (row b7 #[.int .i64 sz, .slice la bf.length lcap, .bool cl, .bool rt] 77 :: Slc 3 1 (.slice la bf.length lcap) bf.length (ints bf) :: row b6 #[.int .i64 0, .slice none 0 0, .bool false, .bool false] 77 :: A :: F)) (fun (k, sz, bf, cl, rt, la, lcap) => n - k) (0, 0, [], false, true, none, 0) ⟨rfl, trivial⟩ ⟨⟨Nat.zero_le _, rfl, Nat.le_refl _⟩, (SL.slcNil 3 1 H).up1⟩ ?_
  rintro ⟨k, sz, bf, cl, rt, la, lcap⟩ s w ⟨hc, H⟩
  obtain ⟨hk', hins, hbl⟩ := hc
  by_cases hk : k < n
  · skip
    obtain ⟨ex0, ex1⟩ : ∃ e, l[k]'(by omega) = e := ⟨_, rfl⟩
    have hx : l[k]? = some ex0 := by rw [← ex1]; exact List.getElem?_eq_getElem _
    clear ex1
    obtain ⟨xkind, xg, xchan, xcase_, xvalue, xmate, xsend, xok⟩ := ex0
    have hdx : l.getD k evz = ⟨xkind, xg, xchan, xcase_, xvalue, xmate, xsend, xok⟩ := by rw [List.getD_eq_getElem?_getD, hx]; rfl
    refine ⟨?_⟩
    refine BB.yes (decide_eq_true (by omega)) ?_
    refine Cn.yes ?_
    refine ⟨?_⟩
    refine ⟨?_⟩
    refine Ix.at k 8 (by kernel_rfl) (rfl) (by omega) ?_
    refine H.ldE 3 rfl hA k 0 hx (v := .int .i64 xkind) rfl ?_
    refine H.ldE 3 rfl hA k 1 hx (v := .int .i64 xg) rfl ?_
    refine H.ldE 3 rfl hA k 2 hx (v := .int .i64 xchan) rfl ?_
    refine H.ldE 3 rfl hA k 3 hx (v := .int .i64 xcase_) rfl ?_
    refine H.ldE 3 rfl hA k 4 hx (v := .int .i64 xvalue) rfl ?_
    refine H.ldE 3 rfl hA k 5 hx (v := .int .i64 xmate) rfl ?_
    refine H.ldE 3 rfl hA k 6 hx (v := .bool xsend) rfl ?_
    refine H.ldE 3 rfl hA k 7 hx (v := .bool xok) rfl ?_
    refine Nw.as #[.int .i64 0, .int .i64 0, .int .i64 0, .int .i64 0, .int .i64 0, .int .i64 0, .bool false, .bool false] 39 rfl H fun b9 w H => ?_
    refine H.st0 (cs' := #[.int .i64 xkind, .int .i64 0, .int .i64 0, .int .i64 0, .int .i64 0, .int .i64 0, .bool false, .bool false]) rfl rfl rfl fun w H => ?_
    refine H.st0 (cs' := #[.int .i64 xkind, .int .i64 xg, .int .i64 0, .int .i64 0, .int .i64 0, .int .i64 0, .bool false, .bool false]) rfl rfl rfl fun w H => ?_
    refine H.st0 (cs' := #[.int .i64 xkind, .int .i64 xg, .int .i64 xchan, .int .i64 0, .int .i64 0, .int .i64 0, .bool false, .bool false]) rfl rfl rfl fun w H => ?_
    refine H.st0 (cs' := #[.int .i64 xkind, .int .i64 xg, .int .i64 xchan, .int .i64 xcase_, .int .i64 0, .int .i64 0, .bool false, .bool false]) rfl rfl rfl fun w H => ?_
    refine H.st0 (cs' := #[.int .i64 xkind, .int .i64 xg, .int .i64 xchan, .int .i64 xcase_, .int .i64 xvalue, .int .i64 0, .bool false, .bool false]) rfl rfl rfl fun w H => ?_
    refine H.st0 (cs' := #[.int .i64 xkind, .int .i64 xg, .int .i64 xchan, .int .i64 xcase_, .int .i64 xvalue, .int .i64 xmate, .bool false, .bool false]) rfl rfl rfl fun w H => ?_
    refine H.st0 (cs' := #[.int .i64 xkind, .int .i64 xg, .int .i64 xchan, .int .i64 xcase_, .int .i64 xvalue, .int .i64 xmate, .bool xsend, .bool false]) rfl rfl rfl fun w H => ?_
    refine H.st0 (cs' := #[.int .i64 xkind, .int .i64 xg, .int .i64 xchan, .int .i64 xcase_, .int .i64 xvalue, .int .i64 xmate, .bool xsend, .bool xok]) rfl rfl rfl fun w H => ?_
    refine ⟨?_⟩
    refine H.ldi 0 rfl (v := .int .i64 xchan) rfl ?_
    refine BB.vr fun q1 e1 => ?_
    cases q1
    · skip
      have h1 := bne_eq_false_iff_eq.1 e1
      subst xchan
      refine Cn.no ?_
      refine ⟨?_⟩
      refine H.ldi 0 rfl (v := .int .i64 xkind) rfl ?_
      refine BB.vr fun q2 e2 => ?_
      cases q2
      · skip
        have h2 := beq_eq_false_iff_ne.1 e2
        refine Cn.no ?_
        refine ⟨?_⟩
        refine H.ldi 0 rfl (v := .int .i64 xkind) rfl ?_
        refine BB.vr fun q3 e3 => ?_
        cases q3
        · skip
          have h3 := beq_eq_false_iff_ne.1 e3
          refine Cn.no ?_
          refine ⟨?_⟩
          refine H.ldi 0 rfl (v := .int .i64 xkind) rfl ?_
          refine BB.vr fun q4 e4 => ?_
          cases q4
          · skip
            have h4 := bne_eq_false_iff_eq.1 e4
            subst h4
            refine Cn.no ?_
            refine ⟨?_⟩
            refine IW.by (m := ↑(l.length - 1)) (by rw [show ((l.length : Int) - 1) = ((l.length - 1 : Nat) : Int) by omega]; exact wrap_id (by omega) (by omega)) ?_
            refine BB.vr fun q5 e5 => ?_
            have hlast : decide (k + 1 = l.length) = q5 := by rw [← last_eq (by omega)]; exact e5
            refine ⟨?_⟩
            refine H.ldi 0 rfl (v := .int .i64 3) rfl ?_
            refine BB.yes rfl ?_
            refine CdX.cut (ι := List Int × Option Addr × Nat) [(57, 81)] (by kernel_rfl) (fun (Y, ya, yc) => []) (fun (Y, ya, yc) w => (insFeed l k ⟨3, xg, c, xcase_, xvalue, xmate, xsend, xok⟩ bf = Y ∧ Y.length ≤ k + 1) ∧ SL w (row b7 #[.int .i64 sz, .slice ya Y.length yc, .bool cl, .bool rt] 77 :: Slc 3 1 (.slice ya Y.length yc) Y.length (ints Y) :: row b9 #[.int .i64 3, .int .i64 xg, .int .i64 c, .int .i64 xcase_, .int .i64 xvalue, .int .i64 xmate, .bool xsend, .bool xok] 39 :: row b6 #[.int .i64 0, .slice none 0 0, .bool false, .bool false] 77 :: A :: F)) ?_ ?_
            · skip
              refine Cn.yes ?_
              refine ⟨?_⟩
              refine H.ldi 1 rfl (v := .slice la bf.length lcap) rfl ?_
              refine H.ldi 0 rfl (v := .int .i64 xvalue) rfl ?_
              refine Mn.new (fun b => .slice (some ⟨b, 0, none⟩) 1 1) #[.int .i64 xvalue] 3 (by kernel_rfl) H fun b61 w H => ?_
              refine SL.appS H.up3 (.tmp 58) (.tmp 61) 56 (.int .i64 0) 8 (by rfl) (by kernel_rfl) (by kernel_rfl) (by rfl) (by decide) (by rfl) (some ⟨b61, 0, none⟩) 1 1 [.int .i64 xvalue] (by rfl) (H.rdRow 0 rfl (by rfl) (by decide)) (by rfl) (by omega) (by decide) (by decide) fun g6 c6 w H => ?_
              refine H.st3 (cs' := #[.int .i64 sz, .slice (some ⟨g6, 0, none⟩) (bf.length + 1) c6, .bool cl, .bool rt]) rfl rfl rfl fun w H => ?_
              have q := H.pick [3, 0, 2, 4, 5] 6 (by decide)
              simp only [pk, nth, List.map_cons, List.map_nil, List.cons_append, List.nil_append, List.drop_succ_cons, List.drop_zero] at q
              rw [ints_snoc] at q
              rw [show bf.length + 1 = (bf ++ [xvalue]).length by simp] at q
              have hy : insFeed l k ⟨3, xg, c, xcase_, xvalue, xmate, xsend, xok⟩ bf = bf ++ [xvalue] := by unfold insFeed; simp [*]
              exact ⟨((bf ++ [xvalue]), (some ⟨g6, 0, none⟩), c6), trivial, ⟨hy, by simp; omega⟩, q⟩
            · skip
              rintro ⟨Y, ya, yc⟩ s w ⟨hcy, H⟩
              obtain ⟨hy, hYl⟩ := hcy
              cases Y with
              | nil =>
                refine ⟨?_⟩
                refine H.st0 (cs' := #[.int .i64 sz, .slice ya 0 yc, .bool cl, .bool true]) rfl rfl rfl fun w H => ?_
                refine ⟨?_⟩
                refine H.ldi 2 rfl (v := .int .i64 3) rfl ?_
                refine BB.no rfl ?_
                refine H.ldi 2 rfl (v := .int .i64 xmate) rfl ?_
                refine BB.vr fun q7 e7 => ?_
                cases q7
                · skip
                  have h7 := of_decide_eq_false e7
                  refine Cn.no ?_
                  refine ⟨?_⟩
                  refine H.ldi 0 rfl (v := .bool true) rfl ?_
                  refine BB.yes rfl ?_
                  refine H.ldi 0 rfl (v := .slice ya 0 yc) rfl ?_
                  refine H.ldi 0 rfl (v := .int .i64 sz) rfl ?_
                  refine BB.k ?_
                  refine H.st0 (cs' := #[.int .i64 sz, .slice ya 0 yc, .bool cl, .bool (decide (0 ≤ sz))]) rfl rfl rfl fun w H => ?_
                  refine ⟨?_⟩
                  refine IW.by (m := ↑k + 1) (wrap_id (by omega) (by omega)) ?_
                  have q := H.pick [0, 1, 3, 4] 5 (by decide)
                  simp only [pk, nth, List.map_cons, List.map_nil, List.cons_append, List.nil_append, List.drop_succ_cons, List.drop_zero] at q
                  have hst : insStep l c k ⟨sz, bf, cl, rt⟩ = ⟨sz, [], cl, decide (0 ≤ sz)⟩ := by rw [insStep_feed hdx (by simp) (by simp [*]), hy]; simp [*]
                  exact ⟨(k + 1, sz, [], cl, decide (0 ≤ sz), ya, yc), ⟨rfl, trivial⟩, ⟨⟨by omega, by rw [insR, hins, hst], by have := hYl; first | omega | (simp only [List.length_cons] at this; omega)⟩, q⟩, (show n - (k + 1) < n - k by omega)⟩
                · skip
                  have h7 := of_decide_eq_true e7
                  refine Cn.yes ?_
                  refine ⟨?_⟩
                  refine H.ldi 0 rfl (v := .slice ya 0 yc) rfl ?_
                  refine BB.no rfl ?_
                  refine Cn.no ?_
                  refine ⟨?_⟩
                  refine H.ldi 2 rfl (v := .int .i64 xmate) rfl ?_
                  refine BB.yes (decide_eq_true h7) ?_
                  refine H.st0 (cs' := #[.int .i64 sz, .slice ya 0 yc, .bool cl, .bool q5]) rfl rfl rfl fun w H => ?_
                  refine ⟨?_⟩
                  refine H.ldi 0 rfl (v := .bool q5) rfl ?_
                  refine BB.k ?_
                  cases q5
                  · skip
                    have h5 := beq_eq_false_iff_ne.1 e5
                    refine H.st0 (cs' := #[.int .i64 sz, .slice ya 0 yc, .bool cl, .bool false]) rfl rfl rfl fun w H => ?_
                    refine ⟨?_⟩
                    refine IW.by (m := ↑k + 1) (wrap_id (by omega) (by omega)) ?_
                    have q := H.pick [0, 1, 3, 4] 5 (by decide)
                    simp only [pk, nth, List.map_cons, List.map_nil, List.cons_append, List.nil_append, List.drop_succ_cons, List.drop_zero] at q
                    have hst : insStep l c k ⟨sz, bf, cl, rt⟩ = ⟨sz, [], cl, false⟩ := by rw [insStep_feed hdx (by simp) (by simp [*]), hy]; simp [*]
                    exact ⟨(k + 1, sz, [], cl, false, ya, yc), ⟨rfl, trivial⟩, ⟨⟨by omega, by rw [insR, hins, hst], by have := hYl; first | omega | (simp only [List.length_cons] at this; omega)⟩, q⟩, (show n - (k + 1) < n - k by omega)⟩
                  · skip
                    have h5 := eq_of_beq e5
                    refine H.ldi 0 rfl (v := .slice ya 0 yc) rfl ?_
                    refine H.ldi 0 rfl (v := .int .i64 sz) rfl ?_
                    refine BB.k ?_
                    refine H.st0 (cs' := #[.int .i64 sz, .slice ya 0 yc, .bool cl, .bool (decide (0 ≤ sz))]) rfl rfl rfl fun w H => ?_
                    refine ⟨?_⟩
                    refine IW.by (m := ↑k + 1) (wrap_id (by omega) (by omega)) ?_
                    have q := H.pick [0, 1, 3, 4] 5 (by decide)
                    simp only [pk, nth, List.map_cons, List.map_nil, List.cons_append, List.nil_append, List.drop_succ_cons, List.drop_zero] at q
                    have hst : insStep l c k ⟨sz, bf, cl, rt⟩ = ⟨sz, [], cl, decide (0 ≤ sz)⟩ := by rw [insStep_feed hdx (by simp) (by simp [*]), hy]; simp [*]
                    exact ⟨(k + 1, sz, [], cl, decide (0 ≤ sz), ya, yc), ⟨rfl, trivial⟩, ⟨⟨by omega, by rw [insR, hins, hst], by have := hYl; first | omega | (simp only [List.length_cons] at this; omega)⟩, q⟩, (show n - (k + 1) < n - k by omega)⟩
              | cons y0 Y =>
                obtain ⟨yg, rfl⟩ := SL.slcAddr H.up1 (Nat.succ_pos _)
                refine ⟨?_⟩
                refine H.st0 (cs' := #[.int .i64 sz, .slice (some ⟨yg, 0, none⟩) (Y.length + 1) yc, .bool cl, .bool true]) rfl rfl rfl fun w H => ?_
                refine ⟨?_⟩
                refine H.ldi 2 rfl (v := .int .i64 3) rfl ?_
                refine BB.no rfl ?_
                refine H.ldi 2 rfl (v := .int .i64 xmate) rfl ?_
                refine BB.vr fun q8 e8 => ?_
                cases q8
                · skip
                  have h8 := of_decide_eq_false e8
                  refine Cn.no ?_
                  refine ⟨?_⟩
                  refine H.ldi 0 rfl (v := .bool true) rfl ?_
                  refine BB.yes rfl ?_
                  refine H.ldi 0 rfl (v := .slice (some ⟨yg, 0, none⟩) (Y.length + 1) yc) rfl ?_
                  refine H.ldi 0 rfl (v := .int .i64 sz) rfl ?_
                  refine BB.k ?_
                  refine H.st0 (cs' := #[.int .i64 sz, .slice (some ⟨yg, 0, none⟩) (Y.length + 1) yc, .bool cl, .bool (decide ((↑(Y.length + 1) : Int) ≤ sz))]) rfl rfl rfl fun w H => ?_
                  refine ⟨?_⟩
                  refine IW.by (m := ↑k + 1) (wrap_id (by omega) (by omega)) ?_
                  have q := H.pick [0, 1, 3, 4] 5 (by decide)
                  simp only [pk, nth, List.map_cons, List.map_nil, List.cons_append, List.nil_append, List.drop_succ_cons, List.drop_zero] at q
                  have hst : insStep l c k ⟨sz, bf, cl, rt⟩ = ⟨sz, (y0 :: Y), cl, decide ((↑(Y.length + 1) : Int) ≤ sz)⟩ := by rw [insStep_feed hdx (by simp) (by simp [*]), hy]; simp [*]
                  exact ⟨(k + 1, sz, (y0 :: Y), cl, decide ((↑(Y.length + 1) : Int) ≤ sz), (some ⟨yg, 0, none⟩), yc), ⟨rfl, trivial⟩, ⟨⟨by omega, by rw [insR, hins, hst], by have := hYl; first | omega | (simp only [List.length_cons] at this; omega)⟩, q⟩, (show n - (k + 1) < n - k by omega)⟩
                · skip
                  have h8 := of_decide_eq_true e8
                  refine Cn.yes ?_
                  refine ⟨?_⟩
                  refine H.ldi 0 rfl (v := .slice (some ⟨yg, 0, none⟩) (Y.length + 1) yc) rfl ?_
                  refine BB.yes (decide_eq_true (show ((Y.length + 1 : Nat) : Int) > 0 by omega)) ?_
                  refine Cn.yes ?_
                  refine ⟨?_⟩
                  refine Drw.of [(0, true), (1, true), (2, true), (3, true), (4, true), (5, true), (6, true), (7, true), (8, false)] (by kernel_rfl) mixed (fun w => SL w _) H.drew ?_
                  replace H := H.drew
                  refine LdC.i 0 rfl (v := .slice (some ⟨yg, 0, none⟩) (Y.length + 1) yc) rfl ?_
                  refine Ix.at0 0 1 (by kernel_rfl) (rfl) (Nat.succ_pos _) ?_
                  refine LdC.S 1 rfl (v := .int .i64 y0) (rfl) ?_
                  refine LdC.i 2 rfl (v := .int .i64 xvalue) rfl ?_
                  refine BB.k ?_
                  refine H.st0 (cs' := #[.int .i64 sz, .slice (some ⟨yg, 0, none⟩) (Y.length + 1) yc, .bool cl, .bool (y0 == xvalue)]) rfl rfl rfl fun w H => ?_
                  refine ⟨.inl rfl, ?_⟩
                  refine ⟨?_⟩
                  refine ⟨?_⟩
                  refine H.ldi 0 rfl (v := .slice (some ⟨yg, 0, none⟩) (Y.length + 1) yc) rfl ?_
                  refine Mn.tailS H.up1 (.tmp 105) (.const (.int .i64 1)) 56 (by rfl) (by kernel_rfl) (by kernel_rfl) (by rfl) (by rfl) fun ta tc hrd => ?_
                  refine SL.appNil (te := 3) (sz := 1) H (.tmp 103) (.tmp 106) 56 (.int .i64 0) 8 (by rfl) (by kernel_rfl) (by kernel_rfl) (by rfl) (by decide) (by rfl) ta Y.length tc (ints Y) (by rfl) (by have h := hrd _ _ 1 H rfl; rw [ints_drop] at h; exact h) (ints_all Y) (by have := hYl; simp only [List.length_cons] at this; omega) (by decide) fun na nc w H => ?_
                  refine ⟨?_⟩
                  refine H.st1 (cs' := #[.int .i64 sz, .slice na Y.length nc, .bool cl, .bool (y0 == xvalue)]) rfl rfl rfl fun w H => ?_
                  refine ⟨?_⟩
                  refine H.ldi 1 rfl (v := .bool (y0 == xvalue)) rfl ?_
                  refine BB.vr fun q9 e9 => ?_
                  cases q9
                  · skip
                    refine H.st1 (cs' := #[.int .i64 sz, .slice na Y.length nc, .bool cl, .bool false]) rfl rfl rfl fun w H => ?_
                    refine ⟨?_⟩
                    refine IW.by (m := ↑k + 1) (wrap_id (by omega) (by omega)) ?_
                    have q := H.pick [1, 0, 4, 5] 6 (by decide)
                    simp only [pk, nth, List.map_cons, List.map_nil, List.cons_append, List.nil_append, List.drop_succ_cons, List.drop_zero] at q
                    have hst : insStep l c k ⟨sz, bf, cl, rt⟩ = ⟨sz, Y, cl, false⟩ := by rw [insStep_feed hdx (by simp) (by simp [*]), hy]; simp [*]
                    exact ⟨(k + 1, sz, Y, cl, false, na, nc), ⟨rfl, trivial⟩, ⟨⟨by omega, by rw [insR, hins, hst], by have := hYl; first | omega | (simp only [List.length_cons] at this; omega)⟩, q⟩, (show n - (k + 1) < n - k by omega)⟩
                  · skip
                    refine H.ldi 1 rfl (v := .slice na Y.length nc) rfl ?_
                    refine H.ldi 1 rfl (v := .int .i64 sz) rfl ?_
                    refine BB.k ?_
                    refine H.st1 (cs' := #[.int .i64 sz, .slice na Y.length nc, .bool cl, .bool (decide ((↑Y.length : Int) ≤ sz))]) rfl rfl rfl fun w H => ?_
                    refine ⟨?_⟩
                    refine IW.by (m := ↑k + 1) (wrap_id (by omega) (by omega)) ?_
                    have q := H.pick [1, 0, 4, 5] 6 (by decide)
                    simp only [pk, nth, List.map_cons, List.map_nil, List.cons_append, List.nil_append, List.drop_succ_cons, List.drop_zero] at q
                    have hst : insStep l c k ⟨sz, bf, cl, rt⟩ = ⟨sz, Y, cl, decide ((↑Y.length : Int) ≤ sz)⟩ := by rw [insStep_feed hdx (by simp) (by simp [*]), hy]; simp [*]
                    exact ⟨(k + 1, sz, Y, cl, decide ((↑Y.length : Int) ≤ sz), na, nc), ⟨rfl, trivial⟩, ⟨⟨by omega, by rw [insR, hins, hst], by have := hYl; first | omega | (simp only [List.length_cons] at this; omega)⟩, q⟩, (show n - (k + 1) < n - k by omega)⟩
          · skip
            have h4 := bne_iff_ne.1 e4
            refine H.ldi 0 rfl (v := .int .i64 xkind) rfl ?_
            refine BB.vr fun q10 e10 => ?_
            cases q10
            · skip
              have h10 := bne_eq_false_iff_eq.1 e10
              subst h10
              refine H.ldi 0 rfl (v := .bool xok) rfl ?_
              refine BB.k ?_
              refine BB.vr fun q11 e11 => ?_
              cases q11
              · skip
                have h11 : xok = true := by simpa using e11
                subst h11
                refine Cn.no ?_
                refine ⟨?_⟩
                refine IW.by (m := ↑(l.length - 1)) (by rw [show ((l.length : Int) - 1) = ((l.length - 1 : Nat) : Int) by omega]; exact wrap_id (by omega) (by omega)) ?_
                refine BB.vr fun q12 e12 => ?_
                have hlast : decide (k + 1 = l.length) = q12 := by rw [← last_eq (by omega)]; exact e12
                refine ⟨?_⟩
                refine H.ldi 0 rfl (v := .int .i64 4) rfl ?_
                refine BB.no rfl ?_
                refine CdX.cut (ι := List Int × Option Addr × Nat) [(57, 81)] (by kernel_rfl) (fun (Y, ya, yc) => []) (fun (Y, ya, yc) w => (insFeed l k ⟨4, xg, c, xcase_, xvalue, xmate, xsend, true⟩ bf = Y ∧ Y.length ≤ k + 1) ∧ SL w (row b7 #[.int .i64 sz, .slice ya Y.length yc, .bool cl, .bool rt] 77 :: Slc 3 1 (.slice ya Y.length yc) Y.length (ints Y) :: row b9 #[.int .i64 4, .int .i64 xg, .int .i64 c, .int .i64 xcase_, .int .i64 xvalue, .int .i64 xmate, .bool xsend, .bool true] 39 :: row b6 #[.int .i64 0, .slice none 0 0, .bool false, .bool false] 77 :: A :: F)) ?_ ?_
                · skip
                  refine Cn.no ?_
                  refine ⟨?_⟩
                  refine H.ldi 0 rfl (v := .int .i64 xmate) rfl ?_
                  refine BB.vr fun q13 e13 => ?_
                  cases q13
                  · skip
                    have h13 := of_decide_eq_false e13
                    refine Cn.no ?_
                    have q := H.pick [1, 2, 0, 3, 4] 5 (by decide)
                    simp only [pk, nth, List.map_cons, List.map_nil, List.cons_append, List.nil_append, List.drop_succ_cons, List.drop_zero] at q
                    have hy : insFeed l k ⟨4, xg, c, xcase_, xvalue, xmate, xsend, true⟩ bf = bf := by unfold insFeed; simp [*]
                    exact ⟨(bf, la, lcap), trivial, ⟨hy, by omega⟩, q⟩
                  · skip
                    have h13 := of_decide_eq_true e13
                    cases q12
                    · skip
                      have h12 := beq_eq_false_iff_ne.1 e12
                      refine BB.yes rfl ?_
                      refine Cn.yes ?_
                      obtain ⟨ey0, ey1⟩ : ∃ e, l[(k + 1)]'(by omega) = e := ⟨_, rfl⟩
                      have hyy : l[(k + 1)]? = some ey0 := by rw [← ey1]; exact List.getElem?_eq_getElem _
                      clear ey1
                      obtain ⟨ykind, yg, ychan, ycase_, yvalue, ymate, ysend, yok⟩ := ey0
                      have hdy : l.getD (k + 1) evz = ⟨ykind, yg, ychan, ycase_, yvalue, ymate, ysend, yok⟩ := by rw [List.getD_eq_getElem?_getD, hyy]; rfl
                      refine ⟨?_⟩
                      refine Drw.of [(0, true), (1, true), (2, true), (3, true), (4, true), (5, true), (6, true), (7, true), (8, false), (9, false), (10, true), (11, false)] (by kernel_rfl) mixed (fun w => SL w _) (H.drew.pick [0, 1, 3, 4] 5 (by decide)) ?_
                      replace H := H.drew
                      refine LdC.i 1 rfl (v := .slice la bf.length lcap) rfl ?_
                      refine IW.by (m := ↑k + 1) (wrap_id (by omega) (by omega)) ?_
                      refine Ix.at (k + 1) 8 (by kernel_rfl) (by omega) (by omega) ?_
                      refine LdC.E 3 rfl hA (k + 1) 4 hyy (v := .int .i64 yvalue) rfl ?_
                      refine Mn.new (fun b => .slice (some ⟨b, 0, none⟩) 1 1) #[.int .i64 yvalue] 3 (by kernel_rfl) H fun b79 w H => ?_
                      refine ⟨.inr (H.pick [1, 2, 4, 5] 6 (by decide)), ?_⟩
                      refine SL.appS H.up3 (.tmp 72) (.tmp 79) 56 (.int .i64 0) 8 (by rfl) (by kernel_rfl) (by kernel_rfl) (by rfl) (by decide) (by rfl) (some ⟨b79, 0, none⟩) 1 1 [.int .i64 yvalue] (by rfl) (H.rdRow 0 rfl (by rfl) (by decide)) (by rfl) (by omega) (by decide) (by decide) fun g14 c14 w H => ?_
                      refine ⟨.inr (H.pick [2, 3, 4, 5] 6 (by decide)), ?_⟩
                      refine H.st3 (cs' := #[.int .i64 sz, .slice (some ⟨g14, 0, none⟩) (bf.length + 1) c14, .bool cl, .bool rt]) rfl rfl rfl fun w H => ?_
                      refine ⟨.inl rfl, ?_⟩
                      have q := H.pick [3, 0, 2, 4, 5] 6 (by decide)
                      simp only [pk, nth, List.map_cons, List.map_nil, List.cons_append, List.nil_append, List.drop_succ_cons, List.drop_zero] at q
                      rw [ints_snoc] at q
                      rw [show bf.length + 1 = (bf ++ [yvalue]).length by simp] at q
                      have hy : insFeed l k ⟨4, xg, c, xcase_, xvalue, xmate, xsend, true⟩ bf = bf ++ [yvalue] := by unfold insFeed; simp [*]
                      exact ⟨((bf ++ [yvalue]), (some ⟨g14, 0, none⟩), c14), trivial, ⟨hy, by simp; omega⟩, q⟩
                    · skip
                      have h12 := eq_of_beq e12
                      refine BB.no rfl ?_
                      refine Cn.no ?_
                      have q := H.pick [1, 2, 0, 3, 4] 5 (by decide)
                      simp only [pk, nth, List.map_cons, List.map_nil, List.cons_append, List.nil_append, List.drop_succ_cons, List.drop_zero] at q
                      have hy : insFeed l k ⟨4, xg, c, xcase_, xvalue, xmate, xsend, true⟩ bf = bf := by unfold insFeed; simp [*]
                      exact ⟨(bf, la, lcap), trivial, ⟨hy, by omega⟩, q⟩
                · skip
                  rintro ⟨Y, ya, yc⟩ s w ⟨hcy, H⟩
                  obtain ⟨hy, hYl⟩ := hcy
                  cases Y with
                  | nil =>
                    refine ⟨?_⟩
                    refine H.st0 (cs' := #[.int .i64 sz, .slice ya 0 yc, .bool cl, .bool true]) rfl rfl rfl fun w H => ?_
                    refine ⟨?_⟩
                    refine H.ldi 2 rfl (v := .int .i64 4) rfl ?_
                    refine BB.yes rfl ?_
                    refine Cn.yes ?_
                    refine ⟨?_⟩
                    refine H.ldi 0 rfl (v := .slice ya 0 yc) rfl ?_
                    refine BB.no rfl ?_
                    refine Cn.no ?_
                    refine ⟨?_⟩
                    refine H.ldi 2 rfl (v := .int .i64 xmate) rfl ?_
                    refine BB.vr fun q15 e15 => ?_
                    cases q15
                    · skip
                      have h15 := of_decide_eq_false e15
                      refine H.st0 (cs' := #[.int .i64 sz, .slice ya 0 yc, .bool cl, .bool false]) rfl rfl rfl fun w H => ?_
                      refine ⟨?_⟩
                      refine H.ldi 0 rfl (v := .bool false) rfl ?_
                      refine BB.no rfl ?_
                      refine H.st0 (cs' := #[.int .i64 sz, .slice ya 0 yc, .bool cl, .bool false]) rfl rfl rfl fun w H => ?_
                      refine ⟨?_⟩
                      refine IW.by (m := ↑k + 1) (wrap_id (by omega) (by omega)) ?_
                      have q := H.pick [0, 1, 3, 4] 5 (by decide)
                      simp only [pk, nth, List.map_cons, List.map_nil, List.cons_append, List.nil_append, List.drop_succ_cons, List.drop_zero] at q
                      have hst : insStep l c k ⟨sz, bf, cl, rt⟩ = ⟨sz, [], cl, false⟩ := by rw [insStep_feed hdx (by simp) (by simp [*]), hy]; simp [*]
                      exact ⟨(k + 1, sz, [], cl, false, ya, yc), ⟨rfl, trivial⟩, ⟨⟨by omega, by rw [insR, hins, hst], by have := hYl; first | omega | (simp only [List.length_cons] at this; omega)⟩, q⟩, (show n - (k + 1) < n - k by omega)⟩
                    · skip
                      have h15 := of_decide_eq_true e15
                      refine H.st0 (cs' := #[.int .i64 sz, .slice ya 0 yc, .bool cl, .bool q12]) rfl rfl rfl fun w H => ?_
                      refine ⟨?_⟩
                      refine H.ldi 0 rfl (v := .bool q12) rfl ?_
                      refine BB.k ?_
                      cases q12
                      · skip
                        have h12 := beq_eq_false_iff_ne.1 e12
                        refine H.st0 (cs' := #[.int .i64 sz, .slice ya 0 yc, .bool cl, .bool false]) rfl rfl rfl fun w H => ?_
                        refine ⟨?_⟩
                        refine IW.by (m := ↑k + 1) (wrap_id (by omega) (by omega)) ?_
                        have q := H.pick [0, 1, 3, 4] 5 (by decide)
                        simp only [pk, nth, List.map_cons, List.map_nil, List.cons_append, List.nil_append, List.drop_succ_cons, List.drop_zero] at q
                        have hst : insStep l c k ⟨sz, bf, cl, rt⟩ = ⟨sz, [], cl, false⟩ := by rw [insStep_feed hdx (by simp) (by simp [*]), hy]; simp [*]
                        exact ⟨(k + 1, sz, [], cl, false, ya, yc), ⟨rfl, trivial⟩, ⟨⟨by omega, by rw [insR, hins, hst], by have := hYl; first | omega | (simp only [List.length_cons] at this; omega)⟩, q⟩, (show n - (k + 1) < n - k by omega)⟩
                      · skip
                        have h12 := eq_of_beq e12
                        refine H.ldi 0 rfl (v := .slice ya 0 yc) rfl ?_
                        refine H.ldi 0 rfl (v := .int .i64 sz) rfl ?_
                        refine BB.k ?_
                        refine H.st0 (cs' := #[.int .i64 sz, .slice ya 0 yc, .bool cl, .bool (decide (0 ≤ sz))]) rfl rfl rfl fun w H => ?_
                        refine ⟨?_⟩
                        refine IW.by (m := ↑k + 1) (wrap_id (by omega) (by omega)) ?_
                        have q := H.pick [0, 1, 3, 4] 5 (by decide)
                        simp only [pk, nth, List.map_cons, List.map_nil, List.cons_append, List.nil_append, List.drop_succ_cons, List.drop_zero] at q
                        have hst : insStep l c k ⟨sz, bf, cl, rt⟩ = ⟨sz, [], cl, decide (0 ≤ sz)⟩ := by rw [insStep_feed hdx (by simp) (by simp [*]), hy]; simp [*]
                        exact ⟨(k + 1, sz, [], cl, decide (0 ≤ sz), ya, yc), ⟨rfl, trivial⟩, ⟨⟨by omega, by rw [insR, hins, hst], by have := hYl; first | omega | (simp only [List.length_cons] at this; omega)⟩, q⟩, (show n - (k + 1) < n - k by omega)⟩
                  | cons y0 Y =>
                    obtain ⟨yg, rfl⟩ := SL.slcAddr H.up1 (Nat.succ_pos _)
                    refine ⟨?_⟩
                    refine H.st0 (cs' := #[.int .i64 sz, .slice (some ⟨yg, 0, none⟩) (Y.length + 1) yc, .bool cl, .bool true]) rfl rfl rfl fun w H => ?_
                    refine ⟨?_⟩
                    refine H.ldi 2 rfl (v := .int .i64 4) rfl ?_
                    refine BB.yes rfl ?_
                    refine Cn.yes ?_
                    refine ⟨?_⟩
                    refine H.ldi 0 rfl (v := .slice (some ⟨yg, 0, none⟩) (Y.length + 1) yc) rfl ?_
                    refine BB.yes (decide_eq_true (show ((Y.length + 1 : Nat) : Int) > 0 by omega)) ?_
                    refine Cn.yes ?_
                    refine ⟨?_⟩
                    refine Drw.of [(0, true), (1, true), (2, true), (3, true), (4, true), (5, true), (6, true), (7, true), (8, false)] (by kernel_rfl) mixed (fun w => SL w _) H.drew ?_
                    replace H := H.drew
                    refine LdC.i 0 rfl (v := .slice (some ⟨yg, 0, none⟩) (Y.length + 1) yc) rfl ?_
                    refine Ix.at0 0 1 (by kernel_rfl) (rfl) (Nat.succ_pos _) ?_
                    refine LdC.S 1 rfl (v := .int .i64 y0) (rfl) ?_
                    refine LdC.i 2 rfl (v := .int .i64 xvalue) rfl ?_
                    refine BB.k ?_
                    refine H.st0 (cs' := #[.int .i64 sz, .slice (some ⟨yg, 0, none⟩) (Y.length + 1) yc, .bool cl, .bool (y0 == xvalue)]) rfl rfl rfl fun w H => ?_
                    refine ⟨.inl rfl, ?_⟩
                    refine ⟨?_⟩
                    refine ⟨?_⟩
                    refine H.ldi 0 rfl (v := .slice (some ⟨yg, 0, none⟩) (Y.length + 1) yc) rfl ?_
                    refine Mn.tailS H.up1 (.tmp 105) (.const (.int .i64 1)) 56 (by rfl) (by kernel_rfl) (by kernel_rfl) (by rfl) (by rfl) fun ta tc hrd => ?_
                    refine SL.appNil (te := 3) (sz := 1) H (.tmp 103) (.tmp 106) 56 (.int .i64 0) 8 (by rfl) (by kernel_rfl) (by kernel_rfl) (by rfl) (by decide) (by rfl) ta Y.length tc (ints Y) (by rfl) (by have h := hrd _ _ 1 H rfl; rw [ints_drop] at h; exact h) (ints_all Y) (by have := hYl; simp only [List.length_cons] at this; omega) (by decide) fun na nc w H => ?_
                    refine ⟨?_⟩
                    refine H.st1 (cs' := #[.int .i64 sz, .slice na Y.length nc, .bool cl, .bool (y0 == xvalue)]) rfl rfl rfl fun w H => ?_
                    refine ⟨?_⟩
                    refine H.ldi 1 rfl (v := .bool (y0 == xvalue)) rfl ?_
                    refine BB.vr fun q16 e16 => ?_
                    cases q16
                    · skip
                      refine H.st1 (cs' := #[.int .i64 sz, .slice na Y.length nc, .bool cl, .bool false]) rfl rfl rfl fun w H => ?_
                      refine ⟨?_⟩
                      refine IW.by (m := ↑k + 1) (wrap_id (by omega) (by omega)) ?_
                      have q := H.pick [1, 0, 4, 5] 6 (by decide)
                      simp only [pk, nth, List.map_cons, List.map_nil, List.cons_append, List.nil_append, List.drop_succ_cons, List.drop_zero] at q
                      have hst : insStep l c k ⟨sz, bf, cl, rt⟩ = ⟨sz, Y, cl, false⟩ := by rw [insStep_feed hdx (by simp) (by simp [*]), hy]; simp [*]
                      exact ⟨(k + 1, sz, Y, cl, false, na, nc), ⟨rfl, trivial⟩, ⟨⟨by omega, by rw [insR, hins, hst], by have := hYl; first | omega | (simp only [List.length_cons] at this; omega)⟩, q⟩, (show n - (k + 1) < n - k by omega)⟩
                    · skip
                      refine H.ldi 1 rfl (v := .slice na Y.length nc) rfl ?_
                      refine H.ldi 1 rfl (v := .int .i64 sz) rfl ?_
                      refine BB.k ?_
                      refine H.st1 (cs' := #[.int .i64 sz, .slice na Y.length nc, .bool cl, .bool (decide ((↑Y.length : Int) ≤ sz))]) rfl rfl rfl fun w H => ?_
                      refine ⟨?_⟩
                      refine IW.by (m := ↑k + 1) (wrap_id (by omega) (by omega)) ?_
                      have q := H.pick [1, 0, 4, 5] 6 (by decide)
                      simp only [pk, nth, List.map_cons, List.map_nil, List.cons_append, List.nil_append, List.drop_succ_cons, List.drop_zero] at q
                      have hst : insStep l c k ⟨sz, bf, cl, rt⟩ = ⟨sz, Y, cl, decide ((↑Y.length : Int) ≤ sz)⟩ := by rw [insStep_feed hdx (by simp) (by simp [*]), hy]; simp [*]
                      exact ⟨(k + 1, sz, Y, cl, decide ((↑Y.length : Int) ≤ sz), na, nc), ⟨rfl, trivial⟩, ⟨⟨by omega, by rw [insR, hins, hst], by have := hYl; first | omega | (simp only [List.length_cons] at this; omega)⟩, q⟩, (show n - (k + 1) < n - k by omega)⟩
              · skip
                have h11 : xok = false := by simpa using e11
                subst h11
                refine Cn.yes ?_
                refine ⟨?_⟩
                refine IW.by (m := ↑k + 1) (wrap_id (by omega) (by omega)) ?_
                have q := H.pick [1, 2, 3, 4] 5 (by decide)
                simp only [pk, nth, List.map_cons, List.map_nil, List.cons_append, List.nil_append, List.drop_succ_cons, List.drop_zero] at q
                have hst : insStep l c k ⟨sz, bf, cl, rt⟩ = ⟨sz, bf, cl, rt⟩ := by unfold insStep; simp only [hdx]; simp [*]
                exact ⟨(k + 1, sz, bf, cl, rt, la, lcap), ⟨rfl, trivial⟩, ⟨⟨by omega, by rw [insR, hins, hst], by omega⟩, q⟩, (show n - (k + 1) < n - k by omega)⟩
            · skip
              have h10 := bne_iff_ne.1 e10
              refine Cn.yes ?_
              refine ⟨?_⟩
              refine IW.by (m := ↑k + 1) (wrap_id (by omega) (by omega)) ?_
              have q := H.pick [1, 2, 3, 4] 5 (by decide)
              simp only [pk, nth, List.map_cons, List.map_nil, List.cons_append, List.nil_append, List.drop_succ_cons, List.drop_zero] at q
              have hst : insStep l c k ⟨sz, bf, cl, rt⟩ = ⟨sz, bf, cl, rt⟩ := by unfold insStep; simp only [hdx]; simp [*]
              exact ⟨(k + 1, sz, bf, cl, rt, la, lcap), ⟨rfl, trivial⟩, ⟨⟨by omega, by rw [insR, hins, hst], by omega⟩, q⟩, (show n - (k + 1) < n - k by omega)⟩
        · skip
          have h3 := eq_of_beq e3
          subst h3
          refine Cn.yes ?_
          refine ⟨?_⟩
          refine H.st1 (cs' := #[.int .i64 sz, .slice la bf.length lcap, .bool true, .bool rt]) rfl rfl rfl fun w H => ?_
          refine ⟨?_⟩
          refine H.ldi 0 rfl (v := .int .i64 5) rfl ?_
          refine BB.yes rfl ?_
          refine H.ldi 0 rfl (v := .int .i64 5) rfl ?_
          refine BB.yes rfl ?_
          refine Cn.yes ?_
          refine ⟨?_⟩
          refine IW.by (m := ↑k + 1) (wrap_id (by omega) (by omega)) ?_
          have q := H.pick [1, 2, 3, 4] 5 (by decide)
          simp only [pk, nth, List.map_cons, List.map_nil, List.cons_append, List.nil_append, List.drop_succ_cons, List.drop_zero] at q
          have hst : insStep l c k ⟨sz, bf, cl, rt⟩ = ⟨sz, bf, true, rt⟩ := by unfold insStep; simp only [hdx]; simp [*]
          exact ⟨(k + 1, sz, bf, true, rt, la, lcap), ⟨rfl, trivial⟩, ⟨⟨by omega, by rw [insR, hins, hst], by omega⟩, q⟩, (show n - (k + 1) < n - k by omega)⟩
      · skip
        have h2 := eq_of_beq e2
        subst h2
        refine Cn.yes ?_
        refine ⟨?_⟩
        refine H.ldi 0 rfl (v := .int .i64 xvalue) rfl ?_
        refine H.st1 (cs' := #[.int .i64 xvalue, .slice la bf.length lcap, .bool cl, .bool rt]) rfl rfl rfl fun w H => ?_
        refine ⟨?_⟩
        refine H.ldi 0 rfl (v := .int .i64 2) rfl ?_
        refine BB.no rfl ?_
        refine Cn.no ?_
        refine ⟨?_⟩
        refine H.ldi 0 rfl (v := .int .i64 2) rfl ?_
        refine BB.yes rfl ?_
        refine H.ldi 0 rfl (v := .int .i64 2) rfl ?_
        refine BB.yes rfl ?_
        refine Cn.yes ?_
        refine ⟨?_⟩
        refine IW.by (m := ↑k + 1) (wrap_id (by omega) (by omega)) ?_
        have q := H.pick [1, 2, 3, 4] 5 (by decide)
        simp only [pk, nth, List.map_cons, List.map_nil, List.cons_append, List.nil_append, List.drop_succ_cons, List.drop_zero] at q
        have hst : insStep l c k ⟨sz, bf, cl, rt⟩ = ⟨xvalue, bf, cl, rt⟩ := by unfold insStep; simp only [hdx]; simp [*]
        exact ⟨(k + 1, xvalue, bf, cl, rt, la, lcap), ⟨rfl, trivial⟩, ⟨⟨by omega, by rw [insR, hins, hst], by omega⟩, q⟩, (show n - (k + 1) < n - k by omega)⟩
    · skip
      have h1 := bne_iff_ne.1 e1
      refine Cn.yes ?_
      refine ⟨?_⟩
      refine IW.by (m := ↑k + 1) (wrap_id (by omega) (by omega)) ?_
      have q := H.pick [1, 2, 3, 4] 5 (by decide)
      simp only [pk, nth, List.map_cons, List.map_nil, List.cons_append, List.nil_append, List.drop_succ_cons, List.drop_zero] at q
      have hst : insStep l c k ⟨sz, bf, cl, rt⟩ = ⟨sz, bf, cl, rt⟩ := by unfold insStep; simp only [hdx]; simp [*]
      exact ⟨(k + 1, sz, bf, cl, rt, la, lcap), ⟨rfl, trivial⟩, ⟨⟨by omega, by rw [insR, hins, hst], by omega⟩, q⟩, (show n - (k + 1) < n - k by omega)⟩
  · skip
    have hki : k = n := by omega
    subst k
    refine ⟨?_⟩
    refine BB.no (decide_eq_false (by omega)) ?_
    refine Cn.no ?_
    refine ⟨?_⟩
    refine H.ldi 0 rfl (v := .int .i64 sz) rfl ?_
    refine H.ldi 0 rfl (v := .slice la bf.length lcap) rfl ?_
    refine H.ldi 0 rfl (v := .bool cl) rfl ?_
    refine H.ldi 0 rfl (v := .bool rt) rfl ?_
    refine H.st2 (cs' := #[.int .i64 sz, .slice none 0 0, .bool false, .bool false]) rfl rfl rfl fun w H => ?_
    refine H.st2 (cs' := #[.int .i64 sz, .slice la bf.length lcap, .bool false, .bool false]) rfl rfl rfl fun w H => ?_
    refine H.st2 (cs' := #[.int .i64 sz, .slice la bf.length lcap, .bool cl, .bool false]) rfl rfl rfl fun w H => ?_
    refine H.st2 (cs' := #[.int .i64 sz, .slice la bf.length lcap, .bool cl, .bool rt]) rfl rfl rfl fun w H => ?_
    refine retC (fn := Tryd.f43) H 2 rfl rfl (by rfl) (by kernel_rfl) (by kernel_rfl) ?_
    have q := H.pick [1, 3] 4 (by decide)
    simp only [pk, nth, List.map_cons, List.map_nil, List.cons_append, List.nil_append, List.drop_succ_cons, List.drop_zero] at q
    rw [hins]
    exact ⟨_, rfl, q⟩

end Go.Proofs.YtoejhelhgfipkaaDoor
