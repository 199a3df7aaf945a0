/- Texts of the proof. -/
import Derived.Test.YtoamjodmidbmbaaGreatDoorX17
import Derived.Test.YtoamjodmidbmbaaGreatDoorX05
import Derived.Test.YtoamjodmidbmbaaGreatDoorX15
set_option linter.unusedVariables false
set_option linter.unusedSimpArgs false
namespace Go.Proofs.YtoamjodmidbmbaaGreatDoor
open Go.RowKit
set_option maxRecDepth 100000
def insFeed (l : List Ev) (k : Nat) (e : Ev) (buf : List Int) : List Int := if e.kind = 3 then buf ++ [e.value] else if 0 ≤ e.mate ∧ decide (k + 1 = l.length) = false then buf ++ [(l.getD (k + 1) evz).value] else buf
theorem insStep_feed {l : List Ev} {c : Int} {k : Nat} {s : InsM} {x : Ev} (hd : l.getD k evz = x) (hc : x.chan = c) (hk : ¬ (x.kind ≠ 3 ∧ (x.kind ≠ 4 ∨ x.ok = false))) : insStep l c k s =
    (if x.kind = 4 ∨ 0 ≤ x.mate then
      match insFeed l k x s.buf with
      | v :: L => ⟨if x.kind = 2 then x.value else s.size, L, if x.kind = 5 then true else s.closed, v == x.value && decide ((L.length : Int) ≤ (if x.kind = 2 then x.value else s.size))⟩
      | [] => ⟨if x.kind = 2 then x.value else s.size, [], if x.kind = 5 then true else s.closed, (decide (0 ≤ x.mate) && decide (k + 1 = l.length)) && decide ((0 : Int) ≤ (if x.kind = 2 then x.value else s.size))⟩
     else ⟨if x.kind = 2 then x.value else s.size, insFeed l k x s.buf, if x.kind = 5 then true else s.closed, true && decide (((insFeed l k x s.buf).length : Int) ≤ (if x.kind = 2 then x.value else s.size))⟩) := by
  subst hd
  unfold insStep
  dsimp only
  rw [if_neg (by simpa using hc), if_neg hk]
  rfl
theorem last_eq {k n : Nat} (h : 0 < n) : ((k : Int) == ((n - 1 : Nat) : Int)) = decide (k + 1 = n) := by
 by_cases hk : k + 1 = n
 ·rw [decide_eq_true hk, beq_iff_eq]; omega
 ·rw [decide_eq_false hk, beq_eq_false_iff_ne]; omega
set_option maxHeartbeats 4000000 in
theorem r_in {w : World} {F : List Piece} {A : Piece} {lb lo lc n : Nat} {l : List Ev} {c : Int} (hA : EvA A lb lo l) (hn : n ≤ l.length) (hll : l.length ≤ 2000) (H : SL w (A :: F)) :
  Calls Tryz.prog 126 #[(.slice (some ⟨lb, lo, none⟩) l.length lc), .int .i64 c, .int .i64 (n : Int)] w fun o w' => ∃ v, o = .returned (.agg #[.int .i64 (insR l c n).size, v, .bool (insR l c n).closed, .bool (insR l c n).right]) ∧ SL w' (Slc 3 1 v (insR l c n).buf.length (ints (insR l c n).buf) :: A :: F) := by
 refine calls_d (args := [_, _, _]) Tryz.func126 rfl ?_
 refine ⟨Nw.as #[.int .i64 0, .slice none 0 0, .bool false, .bool false] 186 rfl H fun b6 w H => ?_⟩
 refine ⟨Mn.pure (.agg #[.int .i64 0, .slice none 0 0, .bool false, .bool true]) (by kernel_rfl) ?_⟩
 refine Nw.as #[.int .i64 0, .slice none 0 0, .bool false, .bool false] 186 rfl H fun b7 w H => ?_
 refine H.st0 (cs' := #[.int .i64 0, .slice none 0 0, .bool false, .bool false]) rfl rfl rfl fun w H => ?_
 refine H.st0 (cs' := #[.int .i64 0, .slice none 0 0, .bool false, .bool false]) rfl rfl rfl fun w H => ?_
 refine H.st0 (cs' := #[.int .i64 0, .slice none 0 0, .bool false, .bool false]) rfl rfl rfl fun w H => ?_
 refine H.st0 (cs' := #[.int .i64 0, .slice none 0 0, .bool false, .bool true]) rfl rfl rfl fun w H => ?_
 refine ⟨⟨den.loop (ι := Nat × Int × List Int × Bool × Bool × Option Addr × Nat) [(8, 11), (13, 127)] (by kernel_rfl) (fun (k, sz, bf, cl, rt, la, lcap) => [(8, .int .i64 ↑k)]) (fun (k, sz, bf, cl, rt, la, lcap) w => (k ≤ n ∧ insR l c k = ⟨sz, bf, cl, rt⟩ ∧ bf.length ≤ k) ∧ SL w (row b7 #[.int .i64 sz, .slice la bf.length lcap, .bool cl, .bool rt] 186 :: Slc 3 1 (.slice la bf.length lcap) bf.length (ints bf) :: row b6 #[.int .i64 0, .slice none 0 0, .bool false, .bool false] 186 :: A :: F)) (fun (k, sz, bf, cl, rt, la, lcap) => n - k) (0, 0, [], false, true, none, 0) ⟨rfl, trivial⟩ ⟨⟨Nat.zero_le _, rfl, Nat.le_refl _⟩, (SL.slcNil 3 1 H).up1⟩ ?_⟩⟩
 rintro ⟨k, sz, bf, cl, rt, la, lcap⟩ s w ⟨hc, H⟩
 obtain ⟨hk', hins, hbl⟩ := hc
 by_cases hk : k < n
 ·have hob : ∃ e, l[k]'(by omega) = e := ⟨_, rfl⟩
  obtain ⟨ex0, ex1⟩ := hob
  have hx : l[k]? = some ex0 := by rw [← ex1]; exact List.getElem?_eq_getElem _
  clear ex1
  obtain ⟨xkind, xg, xchan, xcase_, xvalue, xmate, xsend, xok⟩ := ex0
  have hdx : l.getD k evz = ⟨xkind, xg, xchan, xcase_, xvalue, xmate, xsend, xok⟩ := by rw [List.getD_eq_getElem?_getD, hx]; rfl
  refine ⟨BB.yd ?_⟩
  refine Cn.yes (⟨⟨Ix.at k 8 (by kernel_rfl) (rfl) (by omega) ?_⟩⟩)
  refine H.ldEv 3 rfl hA k hx (Nw.as ev0C 53 rfl H fun b9 w H => ?_)
  refine SL.stEv H rfl rfl fun w H => ?_
  refine ⟨H.ldi 0 rfl (v := .int .i64 xchan) rfl ?_⟩
  refine BB.vr fun q1 e1 => ?_
  cases q1
  ·have h1 := bne_eq_false_iff_eq.1 e1
   subst xchan
   refine Cn.no (⟨H.ldi 0 rfl (v := .int .i64 xkind) rfl ?_⟩)
   refine BB.vr fun q2 e2 => ?_
   cases q2
   ·have h2 := neq_of e2
    refine Cn.no (⟨H.ldi 0 rfl (v := .int .i64 xkind) rfl ?_⟩)
    refine BB.vr fun q3 e3 => ?_
    cases q3
    ·have h3 := neq_of e3
     refine Cn.no (⟨H.ldi 0 rfl (v := .int .i64 xkind) rfl ?_⟩)
     refine BB.vr fun q4 e4 => ?_
     cases q4
     ·have h4 := bne_eq_false_iff_eq.1 e4
      subst h4
      refine Cn.no (⟨IW.by (m := ↑(l.length - 1)) (by rw [show ((l.length : Int) - 1) = ((l.length - 1 : Nat) : Int) by omega]; exact wrap_id (by omega) (by omega)) ?_⟩)
      refine BB.vr fun q5 e5 => ?_
      have hlast : decide (k + 1 = l.length) = q5 := by rw [← last_eq (by omega)]; exact e5
      refine ⟨H.ldi 0 rfl (v := .int .i64 3) rfl ?_⟩
      refine BB.yes rfl ?_
      refine CdX.cut (ι := List Int × Option Addr × Nat) [(57, 81)] (by kernel_rfl) (fun (Y, ya, yc) => []) (fun (Y, ya, yc) w => (insFeed l k ⟨3, xg, c, xcase_, xvalue, xmate, xsend, xok⟩ bf = Y ∧ Y.length ≤ k + 1) ∧ SL w (row b7 #[.int .i64 sz, .slice ya Y.length yc, .bool cl, .bool rt] 186 :: Slc 3 1 (.slice ya Y.length yc) Y.length (ints Y) :: row b9 #[.int .i64 3, .int .i64 xg, .int .i64 c, .int .i64 xcase_, .int .i64 xvalue, .int .i64 xmate, .bool xsend, .bool xok] 53 :: row b6 #[.int .i64 0, .slice none 0 0, .bool false, .bool false] 186 :: A :: F)) ?_ ?_
      ·refine Cn.yes (⟨H.ldi 1 rfl (v := .slice la bf.length lcap) rfl ?_⟩)
       refine H.ldi 0 rfl (v := .int .i64 xvalue) rfl (Mn.new (fun b => .slice (some ⟨b, 0, none⟩) 1 1) #[.int .i64 xvalue] 3 (by kernel_rfl) H fun b61 w H => ?_)
       refine SL.appS H.up3 (.tmp 58) (.tmp 61) 67 (.int .i64 0) 8 (by rfl) (by kernel_rfl) (by kernel_rfl) (by rfl) (by decide) (by rfl) (some ⟨b61, 0, none⟩) 1 1 [.int .i64 xvalue] (by rfl) (H.rdRow 0 rfl (by rfl) (by decide)) (by rfl) (by omega) (by decide) (by decide) fun g6 c6 w H => ?_
       refine H.st3 (cs' := #[.int .i64 sz, .slice (some ⟨g6, 0, none⟩) (bf.length + 1) c6, .bool cl, .bool rt]) rfl rfl rfl fun w H => ?_
       have q := H.pi [3, 0, 2, 4, 5] 6
       simp only [pl, nth, drL] at q
       rw [ints_snoc] at q
       rw [show bf.length + 1 = (bf ++ [xvalue]).length by simp] at q
       have hy : insFeed l k ⟨3, xg, c, xcase_, xvalue, xmate, xsend, xok⟩ bf = bf ++ [xvalue] := by unfold insFeed; simp [*]
       exact ⟨((bf ++ [xvalue]), (some ⟨g6, 0, none⟩), c6), trivial, ⟨hy, by simp; omega⟩, q⟩
      rintro ⟨Y, ya, yc⟩ s w ⟨hcy, H⟩
      obtain ⟨hy, hYl⟩ := hcy
      cases Y with
      | nil =>
       refine ⟨H.st0 (cs' := #[.int .i64 sz, .slice ya 0 yc, .bool cl, .bool true]) rfl rfl rfl fun w H => ?_⟩
       refine ⟨H.ldi 2 rfl (v := .int .i64 3) rfl ?_⟩
       refine BB.no rfl (H.ldi 2 rfl (v := .int .i64 xmate) rfl (BB.vr fun q7 e7 => ?_))
       cases q7
       ·have h7 := of_decide_eq_false e7
        refine Cn.no (⟨H.ldi 0 rfl (v := .bool true) rfl ?_⟩)
        refine BB.yes rfl (H.ldi 0 rfl (v := .slice ya 0 yc) rfl (H.ldi 0 rfl (v := .int .i64 sz) rfl (BB.k (H.st0 (cs' := #[.int .i64 sz, .slice ya 0 yc, .bool cl, .bool (decide (0 ≤ sz))]) rfl rfl rfl fun w H => ?_))))
        refine ⟨IW.by (m := ↑k + 1) (wrap_id (by omega) (by omega)) ?_⟩
        have q := H.pi [0, 1, 3, 4] 5
        simp only [pl, nth, drL] at q
        have hst : insStep l c k ⟨sz, bf, cl, rt⟩ = ⟨sz, [], cl, decide (0 ≤ sz)⟩ := by rw [insStep_feed hdx (by simp) (by simp [*]), hy]; simp [*]
        exact ⟨(k + 1, sz, [], cl, decide (0 ≤ sz), ya, yc), ⟨rfl, trivial⟩, ⟨⟨by omega, by rw [insR, hins, hst], by have := hYl; first | omega | (simp only [List.length_cons] at this; omega)⟩, q⟩, (show n - (k + 1) < n - k by omega)⟩
       have h7 := of_decide_eq_true e7
       refine Cn.yes (⟨H.ldi 0 rfl (v := .slice ya 0 yc) rfl ?_⟩)
       refine BB.no rfl (Cn.no (⟨H.ldi 2 rfl (v := .int .i64 xmate) rfl ?_⟩))
       refine BB.yes (decide_eq_true h7) (H.st0 (cs' := #[.int .i64 sz, .slice ya 0 yc, .bool cl, .bool q5]) rfl rfl rfl fun w H => ?_)
       refine ⟨H.ldi 0 rfl (v := .bool q5) rfl ?_⟩
       refine BB.k ?_
       cases q5
       ·have h5 := neq_of e5
        refine H.st0 (cs' := #[.int .i64 sz, .slice ya 0 yc, .bool cl, .bool false]) rfl rfl rfl fun w H => ?_
        refine ⟨IW.by (m := ↑k + 1) (wrap_id (by omega) (by omega)) ?_⟩
        have q := H.pi [0, 1, 3, 4] 5
        simp only [pl, nth, drL] at q
        have hst : insStep l c k ⟨sz, bf, cl, rt⟩ = ⟨sz, [], cl, false⟩ := by rw [insStep_feed hdx (by simp) (by simp [*]), hy]; simp [*]
        exact ⟨(k + 1, sz, [], cl, false, ya, yc), ⟨rfl, trivial⟩, ⟨⟨by omega, by rw [insR, hins, hst], by have := hYl; first | omega | (simp only [List.length_cons] at this; omega)⟩, q⟩, (show n - (k + 1) < n - k by omega)⟩
       have h5 := eq_of_beq e5
       refine H.ldi 0 rfl (v := .slice ya 0 yc) rfl (H.ldi 0 rfl (v := .int .i64 sz) rfl (BB.k (H.st0 (cs' := #[.int .i64 sz, .slice ya 0 yc, .bool cl, .bool (decide (0 ≤ sz))]) rfl rfl rfl fun w H => ?_)))
       refine ⟨IW.by (m := ↑k + 1) (wrap_id (by omega) (by omega)) ?_⟩
       have q := H.pi [0, 1, 3, 4] 5
       simp only [pl, nth, drL] at q
       have hst : insStep l c k ⟨sz, bf, cl, rt⟩ = ⟨sz, [], cl, decide (0 ≤ sz)⟩ := by rw [insStep_feed hdx (by simp) (by simp [*]), hy]; simp [*]
       exact ⟨(k + 1, sz, [], cl, decide (0 ≤ sz), ya, yc), ⟨rfl, trivial⟩, ⟨⟨by omega, by rw [insR, hins, hst], by have := hYl; first | omega | (simp only [List.length_cons] at this; omega)⟩, q⟩, (show n - (k + 1) < n - k by omega)⟩
      | cons y0 Y =>
       have hob := SL.slcAddr H.up1 (Nat.succ_pos _)
       obtain ⟨yg, rfl⟩ := hob
       refine ⟨H.st0 (cs' := #[.int .i64 sz, .slice (some ⟨yg, 0, none⟩) (Y.length + 1) yc, .bool cl, .bool true]) rfl rfl rfl fun w H => ?_⟩
       refine ⟨H.ldi 2 rfl (v := .int .i64 3) rfl ?_⟩
       refine BB.no rfl (H.ldi 2 rfl (v := .int .i64 xmate) rfl (BB.vr fun q8 e8 => ?_))
       cases q8
       ·have h8 := of_decide_eq_false e8
        refine Cn.no (⟨H.ldi 0 rfl (v := .bool true) rfl ?_⟩)
        refine BB.yes rfl (H.ldi 0 rfl (v := .slice (some ⟨yg, 0, none⟩) (Y.length + 1) yc) rfl (H.ldi 0 rfl (v := .int .i64 sz) rfl (BB.k (H.st0 (cs' := #[.int .i64 sz, .slice (some ⟨yg, 0, none⟩) (Y.length + 1) yc, .bool cl, .bool (decide ((↑(Y.length + 1) : Int) ≤ sz))]) rfl rfl rfl fun w H => ?_))))
        refine ⟨IW.by (m := ↑k + 1) (wrap_id (by omega) (by omega)) ?_⟩
        have q := H.pi [0, 1, 3, 4] 5
        simp only [pl, nth, drL] at q
        have hst : insStep l c k ⟨sz, bf, cl, rt⟩ = ⟨sz, (y0 :: Y), cl, decide ((↑(Y.length + 1) : Int) ≤ sz)⟩ := by rw [insStep_feed hdx (by simp) (by simp [*]), hy]; simp [*]
        exact ⟨(k + 1, sz, (y0 :: Y), cl, decide ((↑(Y.length + 1) : Int) ≤ sz), (some ⟨yg, 0, none⟩), yc), ⟨rfl, trivial⟩, ⟨⟨by omega, by rw [insR, hins, hst], by have := hYl; first | omega | (simp only [List.length_cons] at this; omega)⟩, q⟩, (show n - (k + 1) < n - k by omega)⟩
       have h8 := of_decide_eq_true e8
       refine Cn.yes (⟨H.ldi 0 rfl (v := .slice (some ⟨yg, 0, none⟩) (Y.length + 1) yc) rfl ?_⟩)
       refine BB.yes (decide_eq_true (show ((Y.length + 1 : Nat) : Int) > 0 by omega)) (Cn.yes (⟨Drw.of [(0, true), (1, true), (2, true), (3, true), (4, true), (5, true), (6, true), (7, true), (8, false)] (by kernel_rfl) mixed (fun w => SL w _) H.drew ?_⟩))
       replace H := H.drew
       refine LdC.i 0 rfl (v := .slice (some ⟨yg, 0, none⟩) (Y.length + 1) yc) rfl (Ix.at0 0 1 (by kernel_rfl) (rfl) (Nat.succ_pos _) ?_)
       refine LdC.S 1 rfl (v := .int .i64 y0) (rfl) (LdC.i 2 rfl (v := .int .i64 xvalue) rfl (BB.k (H.st0 (cs' := #[.int .i64 sz, .slice (some ⟨yg, 0, none⟩) (Y.length + 1) yc, .bool cl, .bool (y0 == xvalue)]) rfl rfl rfl fun w H => ?_)))
       refine ⟨.inl rfl, ?_⟩
       refine ⟨⟨H.ldi 0 rfl (v := .slice (some ⟨yg, 0, none⟩) (Y.length + 1) yc) rfl ?_⟩⟩
       refine Mn.tailS H.up1 (.tmp 105) (.const (.int .i64 1)) 67 (by rfl) (by kernel_rfl) (by kernel_rfl) (by rfl) (by rfl) fun ta tc hrd => ?_
       refine SL.appNil (te := 3) (sz := 1) H (.tmp 103) (.tmp 106) 67 (.int .i64 0) 8 (by rfl) (by kernel_rfl) (by kernel_rfl) (by rfl) (by decide) (by rfl) ta Y.length tc (ints Y) (by rfl) (by have h := hrd _ _ 1 H rfl; rw [ints_drop] at h; exact h) (ints_all Y) (by have := hYl; simp only [List.length_cons] at this; omega) (by decide) fun na nc w H => ?_
       refine ⟨H.st1 (cs' := #[.int .i64 sz, .slice na Y.length nc, .bool cl, .bool (y0 == xvalue)]) rfl rfl rfl fun w H => ?_⟩
       refine ⟨H.ldi 1 rfl (v := .bool (y0 == xvalue)) rfl ?_⟩
       refine BB.vr fun q9 e9 => ?_
       cases q9
       ·refine H.st1 (cs' := #[.int .i64 sz, .slice na Y.length nc, .bool cl, .bool false]) rfl rfl rfl fun w H => ?_
        refine ⟨IW.by (m := ↑k + 1) (wrap_id (by omega) (by omega)) ?_⟩
        have q := H.pi [1, 0, 4, 5] 6
        simp only [pl, nth, drL] at q
        have hst : insStep l c k ⟨sz, bf, cl, rt⟩ = ⟨sz, Y, cl, false⟩ := by rw [insStep_feed hdx (by simp) (by simp [*]), hy]; simp [*]
        exact ⟨(k + 1, sz, Y, cl, false, na, nc), ⟨rfl, trivial⟩, ⟨⟨by omega, by rw [insR, hins, hst], by have := hYl; first | omega | (simp only [List.length_cons] at this; omega)⟩, q⟩, (show n - (k + 1) < n - k by omega)⟩
       refine H.ldi 1 rfl (v := .slice na Y.length nc) rfl (H.ldi 1 rfl (v := .int .i64 sz) rfl (BB.k (H.st1 (cs' := #[.int .i64 sz, .slice na Y.length nc, .bool cl, .bool (decide ((↑Y.length : Int) ≤ sz))]) rfl rfl rfl fun w H => ?_)))
       refine ⟨IW.by (m := ↑k + 1) (wrap_id (by omega) (by omega)) ?_⟩
       have q := H.pi [1, 0, 4, 5] 6
       simp only [pl, nth, drL] at q
       have hst : insStep l c k ⟨sz, bf, cl, rt⟩ = ⟨sz, Y, cl, decide ((↑Y.length : Int) ≤ sz)⟩ := by rw [insStep_feed hdx (by simp) (by simp [*]), hy]; simp [*]
       exact ⟨(k + 1, sz, Y, cl, decide ((↑Y.length : Int) ≤ sz), na, nc), ⟨rfl, trivial⟩, ⟨⟨by omega, by rw [insR, hins, hst], by have := hYl; first | omega | (simp only [List.length_cons] at this; omega)⟩, q⟩, (show n - (k + 1) < n - k by omega)⟩
     have h4 := bne_iff_ne.1 e4
     refine H.ldi 0 rfl (v := .int .i64 xkind) rfl (BB.vr fun q10 e10 => ?_)
     cases q10
     ·have h10 := bne_eq_false_iff_eq.1 e10
      subst h10
      refine H.ldi 0 rfl (v := .bool xok) rfl (BB.k (BB.vr fun q11 e11 => ?_))
      cases q11
      ·have h11 : xok = true := by simpa using e11
       subst h11
       refine Cn.no (⟨IW.by (m := ↑(l.length - 1)) (by rw [show ((l.length : Int) - 1) = ((l.length - 1 : Nat) : Int) by omega]; exact wrap_id (by omega) (by omega)) ?_⟩)
       refine BB.vr fun q12 e12 => ?_
       have hlast : decide (k + 1 = l.length) = q12 := by rw [← last_eq (by omega)]; exact e12
       refine ⟨H.ldi 0 rfl (v := .int .i64 4) rfl ?_⟩
       refine BB.no rfl ?_
       refine CdX.cut (ι := List Int × Option Addr × Nat) [(57, 81)] (by kernel_rfl) (fun (Y, ya, yc) => []) (fun (Y, ya, yc) w => (insFeed l k ⟨4, xg, c, xcase_, xvalue, xmate, xsend, true⟩ bf = Y ∧ Y.length ≤ k + 1) ∧ SL w (row b7 #[.int .i64 sz, .slice ya Y.length yc, .bool cl, .bool rt] 186 :: Slc 3 1 (.slice ya Y.length yc) Y.length (ints Y) :: row b9 #[.int .i64 4, .int .i64 xg, .int .i64 c, .int .i64 xcase_, .int .i64 xvalue, .int .i64 xmate, .bool xsend, .bool true] 53 :: row b6 #[.int .i64 0, .slice none 0 0, .bool false, .bool false] 186 :: A :: F)) ?_ ?_
       ·refine Cn.no (⟨H.ldi 0 rfl (v := .int .i64 xmate) rfl ?_⟩)
        refine BB.vr fun q13 e13 => ?_
        cases q13
        ·have h13 := of_decide_eq_false e13
         refine Cn.no ?_
         have q := H.pi [1, 2, 0, 3, 4] 5
         simp only [pl, nth, drL] at q
         have hy : insFeed l k ⟨4, xg, c, xcase_, xvalue, xmate, xsend, true⟩ bf = bf := by unfold insFeed; simp [*]
         exact ⟨(bf, la, lcap), trivial, ⟨hy, by omega⟩, q⟩
        have h13 := of_decide_eq_true e13
        cases q12
        ·have h12 := neq_of e12
         refine BB.yes rfl (Cn.yes ?_)
         have hob : ∃ e, l[(k + 1)]'(by omega) = e := ⟨_, rfl⟩
         obtain ⟨ey0, ey1⟩ := hob
         have hyy : l[(k + 1)]? = some ey0 := by rw [← ey1]; exact List.getElem?_eq_getElem _
         clear ey1
         obtain ⟨ykind, yg, ychan, ycase_, yvalue, ymate, ysend, yok⟩ := ey0
         have hdy : l.getD (k + 1) evz = ⟨ykind, yg, ychan, ycase_, yvalue, ymate, ysend, yok⟩ := by rw [List.getD_eq_getElem?_getD, hyy]; rfl
         refine ⟨Drw.of [(0, true), (1, true), (2, true), (3, true), (4, true), (5, true), (6, true), (7, true), (8, false), (9, false), (10, true), (11, false)] (by kernel_rfl) mixed (fun w => SL w _) (H.drew.pi [0, 1, 3, 4] 5) ?_⟩
         replace H := H.drew
         refine LdC.i 1 rfl (v := .slice la bf.length lcap) rfl (IW.by (m := ↑k + 1) (wrap_id (by omega) (by omega)) (Ix.at (k + 1) 8 (by kernel_rfl) (by omega) (by omega) ?_))
         refine LdC.E 3 rfl hA (k + 1) 4 hyy (v := .int .i64 yvalue) rfl (Mn.new (fun b => .slice (some ⟨b, 0, none⟩) 1 1) #[.int .i64 yvalue] 3 (by kernel_rfl) H fun b79 w H => ?_)
         refine ⟨.inr (H.pi [1, 2, 4, 5] 6), ?_⟩
         refine SL.appS H.up3 (.tmp 72) (.tmp 79) 67 (.int .i64 0) 8 (by rfl) (by kernel_rfl) (by kernel_rfl) (by rfl) (by decide) (by rfl) (some ⟨b79, 0, none⟩) 1 1 [.int .i64 yvalue] (by rfl) (H.rdRow 0 rfl (by rfl) (by decide)) (by rfl) (by omega) (by decide) (by decide) fun g14 c14 w H => ?_
         refine ⟨.inr (H.pi [2, 3, 4, 5] 6), ?_⟩
         refine H.st3 (cs' := #[.int .i64 sz, .slice (some ⟨g14, 0, none⟩) (bf.length + 1) c14, .bool cl, .bool rt]) rfl rfl rfl fun w H => ?_
         refine ⟨.inl rfl, ?_⟩
         have q := H.pi [3, 0, 2, 4, 5] 6
         simp only [pl, nth, drL] at q
         rw [ints_snoc] at q
         rw [show bf.length + 1 = (bf ++ [yvalue]).length by simp] at q
         have hy : insFeed l k ⟨4, xg, c, xcase_, xvalue, xmate, xsend, true⟩ bf = bf ++ [yvalue] := by unfold insFeed; simp [*]
         exact ⟨((bf ++ [yvalue]), (some ⟨g14, 0, none⟩), c14), trivial, ⟨hy, by simp; omega⟩, q⟩
        have h12 := eq_of_beq e12
        refine BB.no rfl (Cn.no ?_)
        have q := H.pi [1, 2, 0, 3, 4] 5
        simp only [pl, nth, drL] at q
        have hy : insFeed l k ⟨4, xg, c, xcase_, xvalue, xmate, xsend, true⟩ bf = bf := by unfold insFeed; simp [*]
        exact ⟨(bf, la, lcap), trivial, ⟨hy, by omega⟩, q⟩
       rintro ⟨Y, ya, yc⟩ s w ⟨hcy, H⟩
       obtain ⟨hy, hYl⟩ := hcy
       cases Y with
       | nil =>
        refine ⟨H.st0 (cs' := #[.int .i64 sz, .slice ya 0 yc, .bool cl, .bool true]) rfl rfl rfl fun w H => ?_⟩
        refine ⟨H.ldi 2 rfl (v := .int .i64 4) rfl ?_⟩
        refine BB.yes rfl (Cn.yes (⟨H.ldi 0 rfl (v := .slice ya 0 yc) rfl ?_⟩))
        refine BB.no rfl (Cn.no (⟨H.ldi 2 rfl (v := .int .i64 xmate) rfl ?_⟩))
        refine BB.vr fun q15 e15 => ?_
        cases q15
        ·have h15 := of_decide_eq_false e15
         refine H.st0 (cs' := #[.int .i64 sz, .slice ya 0 yc, .bool cl, .bool false]) rfl rfl rfl fun w H => ?_
         refine ⟨H.ldi 0 rfl (v := .bool false) rfl ?_⟩
         refine BB.no rfl (H.st0 (cs' := #[.int .i64 sz, .slice ya 0 yc, .bool cl, .bool false]) rfl rfl rfl fun w H => ?_)
         refine ⟨IW.by (m := ↑k + 1) (wrap_id (by omega) (by omega)) ?_⟩
         have q := H.pi [0, 1, 3, 4] 5
         simp only [pl, nth, drL] at q
         have hst : insStep l c k ⟨sz, bf, cl, rt⟩ = ⟨sz, [], cl, false⟩ := by rw [insStep_feed hdx (by simp) (by simp [*]), hy]; simp [*]
         exact ⟨(k + 1, sz, [], cl, false, ya, yc), ⟨rfl, trivial⟩, ⟨⟨by omega, by rw [insR, hins, hst], by have := hYl; first | omega | (simp only [List.length_cons] at this; omega)⟩, q⟩, (show n - (k + 1) < n - k by omega)⟩
        have h15 := of_decide_eq_true e15
        refine H.st0 (cs' := #[.int .i64 sz, .slice ya 0 yc, .bool cl, .bool q12]) rfl rfl rfl fun w H => ?_
        refine ⟨H.ldi 0 rfl (v := .bool q12) rfl ?_⟩
        refine BB.k ?_
        cases q12
        ·have h12 := neq_of e12
         refine H.st0 (cs' := #[.int .i64 sz, .slice ya 0 yc, .bool cl, .bool false]) rfl rfl rfl fun w H => ?_
         refine ⟨IW.by (m := ↑k + 1) (wrap_id (by omega) (by omega)) ?_⟩
         have q := H.pi [0, 1, 3, 4] 5
         simp only [pl, nth, drL] at q
         have hst : insStep l c k ⟨sz, bf, cl, rt⟩ = ⟨sz, [], cl, false⟩ := by rw [insStep_feed hdx (by simp) (by simp [*]), hy]; simp [*]
         exact ⟨(k + 1, sz, [], cl, false, ya, yc), ⟨rfl, trivial⟩, ⟨⟨by omega, by rw [insR, hins, hst], by have := hYl; first | omega | (simp only [List.length_cons] at this; omega)⟩, q⟩, (show n - (k + 1) < n - k by omega)⟩
        have h12 := eq_of_beq e12
        refine H.ldi 0 rfl (v := .slice ya 0 yc) rfl (H.ldi 0 rfl (v := .int .i64 sz) rfl (BB.k (H.st0 (cs' := #[.int .i64 sz, .slice ya 0 yc, .bool cl, .bool (decide (0 ≤ sz))]) rfl rfl rfl fun w H => ?_)))
        refine ⟨IW.by (m := ↑k + 1) (wrap_id (by omega) (by omega)) ?_⟩
        have q := H.pi [0, 1, 3, 4] 5
        simp only [pl, nth, drL] at q
        have hst : insStep l c k ⟨sz, bf, cl, rt⟩ = ⟨sz, [], cl, decide (0 ≤ sz)⟩ := by rw [insStep_feed hdx (by simp) (by simp [*]), hy]; simp [*]
        exact ⟨(k + 1, sz, [], cl, decide (0 ≤ sz), ya, yc), ⟨rfl, trivial⟩, ⟨⟨by omega, by rw [insR, hins, hst], by have := hYl; first | omega | (simp only [List.length_cons] at this; omega)⟩, q⟩, (show n - (k + 1) < n - k by omega)⟩
       | cons y0 Y =>
        have hob := SL.slcAddr H.up1 (Nat.succ_pos _)
        obtain ⟨yg, rfl⟩ := hob
        refine ⟨H.st0 (cs' := #[.int .i64 sz, .slice (some ⟨yg, 0, none⟩) (Y.length + 1) yc, .bool cl, .bool true]) rfl rfl rfl fun w H => ?_⟩
        refine ⟨H.ldi 2 rfl (v := .int .i64 4) rfl ?_⟩
        refine BB.yes rfl (Cn.yes (⟨H.ldi 0 rfl (v := .slice (some ⟨yg, 0, none⟩) (Y.length + 1) yc) rfl ?_⟩))
        refine BB.yes (decide_eq_true (show ((Y.length + 1 : Nat) : Int) > 0 by omega)) (Cn.yes (⟨Drw.of [(0, true), (1, true), (2, true), (3, true), (4, true), (5, true), (6, true), (7, true), (8, false)] (by kernel_rfl) mixed (fun w => SL w _) H.drew ?_⟩))
        replace H := H.drew
        refine LdC.i 0 rfl (v := .slice (some ⟨yg, 0, none⟩) (Y.length + 1) yc) rfl (Ix.at0 0 1 (by kernel_rfl) (rfl) (Nat.succ_pos _) ?_)
        refine LdC.S 1 rfl (v := .int .i64 y0) (rfl) (LdC.i 2 rfl (v := .int .i64 xvalue) rfl (BB.k (H.st0 (cs' := #[.int .i64 sz, .slice (some ⟨yg, 0, none⟩) (Y.length + 1) yc, .bool cl, .bool (y0 == xvalue)]) rfl rfl rfl fun w H => ?_)))
        refine ⟨.inl rfl, ?_⟩
        refine ⟨⟨H.ldi 0 rfl (v := .slice (some ⟨yg, 0, none⟩) (Y.length + 1) yc) rfl ?_⟩⟩
        refine Mn.tailS H.up1 (.tmp 105) (.const (.int .i64 1)) 67 (by rfl) (by kernel_rfl) (by kernel_rfl) (by rfl) (by rfl) fun ta tc hrd => ?_
        refine SL.appNil (te := 3) (sz := 1) H (.tmp 103) (.tmp 106) 67 (.int .i64 0) 8 (by rfl) (by kernel_rfl) (by kernel_rfl) (by rfl) (by decide) (by rfl) ta Y.length tc (ints Y) (by rfl) (by have h := hrd _ _ 1 H rfl; rw [ints_drop] at h; exact h) (ints_all Y) (by have := hYl; simp only [List.length_cons] at this; omega) (by decide) fun na nc w H => ?_
        refine ⟨H.st1 (cs' := #[.int .i64 sz, .slice na Y.length nc, .bool cl, .bool (y0 == xvalue)]) rfl rfl rfl fun w H => ?_⟩
        refine ⟨H.ldi 1 rfl (v := .bool (y0 == xvalue)) rfl ?_⟩
        refine BB.vr fun q16 e16 => ?_
        cases q16
        ·refine H.st1 (cs' := #[.int .i64 sz, .slice na Y.length nc, .bool cl, .bool false]) rfl rfl rfl fun w H => ?_
         refine ⟨IW.by (m := ↑k + 1) (wrap_id (by omega) (by omega)) ?_⟩
         have q := H.pi [1, 0, 4, 5] 6
         simp only [pl, nth, drL] at q
         have hst : insStep l c k ⟨sz, bf, cl, rt⟩ = ⟨sz, Y, cl, false⟩ := by rw [insStep_feed hdx (by simp) (by simp [*]), hy]; simp [*]
         exact ⟨(k + 1, sz, Y, cl, false, na, nc), ⟨rfl, trivial⟩, ⟨⟨by omega, by rw [insR, hins, hst], by have := hYl; first | omega | (simp only [List.length_cons] at this; omega)⟩, q⟩, (show n - (k + 1) < n - k by omega)⟩
        refine H.ldi 1 rfl (v := .slice na Y.length nc) rfl (H.ldi 1 rfl (v := .int .i64 sz) rfl (BB.k (H.st1 (cs' := #[.int .i64 sz, .slice na Y.length nc, .bool cl, .bool (decide ((↑Y.length : Int) ≤ sz))]) rfl rfl rfl fun w H => ?_)))
        refine ⟨IW.by (m := ↑k + 1) (wrap_id (by omega) (by omega)) ?_⟩
        have q := H.pi [1, 0, 4, 5] 6
        simp only [pl, nth, drL] at q
        have hst : insStep l c k ⟨sz, bf, cl, rt⟩ = ⟨sz, Y, cl, decide ((↑Y.length : Int) ≤ sz)⟩ := by rw [insStep_feed hdx (by simp) (by simp [*]), hy]; simp [*]
        exact ⟨(k + 1, sz, Y, cl, decide ((↑Y.length : Int) ≤ sz), na, nc), ⟨rfl, trivial⟩, ⟨⟨by omega, by rw [insR, hins, hst], by have := hYl; first | omega | (simp only [List.length_cons] at this; omega)⟩, q⟩, (show n - (k + 1) < n - k by omega)⟩
      have h11 : xok = false := by simpa using e11
      subst h11
      refine Cn.yes (⟨IW.by (m := ↑k + 1) (wrap_id (by omega) (by omega)) ?_⟩)
      have q := H.pi [1, 2, 3, 4] 5
      simp only [pl, nth, drL] at q
      have hst : insStep l c k ⟨sz, bf, cl, rt⟩ = ⟨sz, bf, cl, rt⟩ := by unfold insStep; simp only [hdx]; simp [*]
      exact ⟨(k + 1, sz, bf, cl, rt, la, lcap), ⟨rfl, trivial⟩, ⟨⟨by omega, by rw [insR, hins, hst], by omega⟩, q⟩, (show n - (k + 1) < n - k by omega)⟩
     have h10 := bne_iff_ne.1 e10
     refine Cn.yes (⟨IW.by (m := ↑k + 1) (wrap_id (by omega) (by omega)) ?_⟩)
     have q := H.pi [1, 2, 3, 4] 5
     simp only [pl, nth, drL] at q
     have hst : insStep l c k ⟨sz, bf, cl, rt⟩ = ⟨sz, bf, cl, rt⟩ := by unfold insStep; simp only [hdx]; simp [*]
     exact ⟨(k + 1, sz, bf, cl, rt, la, lcap), ⟨rfl, trivial⟩, ⟨⟨by omega, by rw [insR, hins, hst], by omega⟩, q⟩, (show n - (k + 1) < n - k by omega)⟩
    have h3 := eq_of_beq e3
    subst h3
    refine Cn.yes (⟨H.st1 (cs' := #[.int .i64 sz, .slice la bf.length lcap, .bool true, .bool rt]) rfl rfl rfl fun w H => ?_⟩)
    refine ⟨H.ldi 0 rfl (v := .int .i64 5) rfl ?_⟩
    refine BB.yes rfl (H.ldi 0 rfl (v := .int .i64 5) rfl (BB.yes rfl (Cn.yes (⟨IW.by (m := ↑k + 1) (wrap_id (by omega) (by omega)) ?_⟩))))
    have q := H.pi [1, 2, 3, 4] 5
    simp only [pl, nth, drL] at q
    have hst : insStep l c k ⟨sz, bf, cl, rt⟩ = ⟨sz, bf, true, rt⟩ := by unfold insStep; simp only [hdx]; simp [*]
    exact ⟨(k + 1, sz, bf, true, rt, la, lcap), ⟨rfl, trivial⟩, ⟨⟨by omega, by rw [insR, hins, hst], by omega⟩, q⟩, (show n - (k + 1) < n - k by omega)⟩
   have h2 := eq_of_beq e2
   subst h2
   refine Cn.yes (⟨H.ldi 0 rfl (v := .int .i64 xvalue) rfl ?_⟩)
   refine H.st1 (cs' := #[.int .i64 xvalue, .slice la bf.length lcap, .bool cl, .bool rt]) rfl rfl rfl fun w H => ?_
   refine ⟨H.ldi 0 rfl (v := .int .i64 2) rfl ?_⟩
   refine BB.no rfl (Cn.no (⟨H.ldi 0 rfl (v := .int .i64 2) rfl ?_⟩))
   refine BB.yes rfl (H.ldi 0 rfl (v := .int .i64 2) rfl (BB.yes rfl (Cn.yes (⟨IW.by (m := ↑k + 1) (wrap_id (by omega) (by omega)) ?_⟩))))
   have q := H.pi [1, 2, 3, 4] 5
   simp only [pl, nth, drL] at q
   have hst : insStep l c k ⟨sz, bf, cl, rt⟩ = ⟨xvalue, bf, cl, rt⟩ := by unfold insStep; simp only [hdx]; simp [*]
   exact ⟨(k + 1, xvalue, bf, cl, rt, la, lcap), ⟨rfl, trivial⟩, ⟨⟨by omega, by rw [insR, hins, hst], by omega⟩, q⟩, (show n - (k + 1) < n - k by omega)⟩
  have h1 := bne_iff_ne.1 e1
  refine Cn.yes (⟨IW.by (m := ↑k + 1) (wrap_id (by omega) (by omega)) ?_⟩)
  have q := H.pi [1, 2, 3, 4] 5
  simp only [pl, nth, drL] at q
  have hst : insStep l c k ⟨sz, bf, cl, rt⟩ = ⟨sz, bf, cl, rt⟩ := by unfold insStep; simp only [hdx]; simp [*]
  exact ⟨(k + 1, sz, bf, cl, rt, la, lcap), ⟨rfl, trivial⟩, ⟨⟨by omega, by rw [insR, hins, hst], by omega⟩, q⟩, (show n - (k + 1) < n - k by omega)⟩
 have hki : k = n := by omega
 subst k
 refine ⟨BB.nd ?_⟩
 refine Cn.no (⟨H.ldi 0 rfl (v := .int .i64 sz) rfl ?_⟩)
 refine H.ldi 0 rfl (v := .slice la bf.length lcap) rfl (H.ldi 0 rfl (v := .bool cl) rfl (H.ldi 0 rfl (v := .bool rt) rfl (H.st2 (cs' := #[.int .i64 sz, .slice none 0 0, .bool false, .bool false]) rfl rfl rfl fun w H => ?_)))
 refine H.st2 (cs' := #[.int .i64 sz, .slice la bf.length lcap, .bool false, .bool false]) rfl rfl rfl fun w H => ?_
 refine H.st2 (cs' := #[.int .i64 sz, .slice la bf.length lcap, .bool cl, .bool false]) rfl rfl rfl fun w H => ?_
 refine H.st2 (cs' := #[.int .i64 sz, .slice la bf.length lcap, .bool cl, .bool rt]) rfl rfl rfl fun w H => ?_
 refine retC H 2 rfl rfl (by rfl) (by kernel_rfl) (by kernel_rfl) ?_
 have q := H.pi [1, 3] 4
 simp only [pl, nth, drL] at q
 rw [hins]
 exact ⟨_, rfl, q⟩
theorem sl_within {w : World} {F : List Piece} (H : SL w F) (n a b : Int) : Calls Tryz.prog 125 #[.int .i64 n, .int .i64 a, .int .i64 b] w fun e w' => e = .returned (.bool (inn a b n)) ∧ SL w' F :=
 (r_within n a b w).mono fun _ _ q => ⟨q.1, by rw [q.2]; exact H⟩
set_option maxHeartbeats 4000000 in
theorem r_check {w : World} {F : List Piece} (H : SL w F) (e : Ev) : Calls Tryz.prog 73 #[e.agg] w fun o w' => o = .returned (.int .i64 (ref12 e)) ∧ SL w' F := by
 obtain ⟨kind, g, chan, case_, value, mate, send, ok⟩ := e
 refine calls_d (args := [_]) Tryz.func73 rfl ?_
 refine ⟨Nw.as #[.int .i64 kind, .int .i64 g, .int .i64 chan, .int .i64 case_, .int .i64 value, .int .i64 mate, .bool send, .bool ok] 53 rfl H fun b1 w H => ?_⟩
 refine ⟨H.ldi 0 rfl (v := .int .i64 kind) rfl ?_⟩
 refine BB.vr fun q1 e1 => ?_
 cases q1
 ·have h1 := of_decide_eq_false e1
  refine H.ldi 0 rfl (v := .int .i64 kind) rfl (BB.vr fun q2 e2 => ?_)
  cases q2
  ·have h2 := of_decide_eq_false e2
   refine Cn.no (⟨H.ldi 0 rfl (v := .int .i64 chan) rfl ?_⟩)
   refine BB.vr fun q3 e3 => ?_
   refine ⟨H.ldi 0 rfl (v := .int .i64 chan) rfl ?_⟩
   refine Cl.s (sl_within H chan 0 511) fun w H => ?_
   refine BB.vr fun q4 e4 => ?_
   refine ⟨H.ldi 0 rfl (v := .int .i64 case_) rfl ?_⟩
   refine BB.vr fun q5 e5 => ?_
   refine ⟨H.ldi 0 rfl (v := .int .i64 case_) rfl ?_⟩
   refine Cl.s (sl_within H case_ (-1) 3) fun w H => ?_
   refine BB.vr fun q6 e6 => ?_
   refine ⟨H.ldi 0 rfl (v := .int .i64 mate) rfl ?_⟩
   refine BB.vr fun q7 e7 => ?_
   refine ⟨H.ldi 0 rfl (v := .int .i64 mate) rfl ?_⟩
   refine Cl.s (sl_within H mate 0 511) fun w H => ?_
   refine BB.vr fun q8 e8 => ?_
   refine ⟨H.ldi 0 rfl (v := .int .i64 value) rfl ?_⟩
   refine Cl.s (sl_within H value 0 99) fun w H => ?_
   refine BB.vr fun q9 e9 => ?_
   refine RgX.cut (id := 10) (ι := Bool) [(10, 10), (43, 50)] (by kernel_rfl) (fun P => [(10, .bool P)]) (fun P w => (!send && !ok) = P ∧ SL w (row b1 #[.int .i64 kind, .int .i64 g, .int .i64 chan, .int .i64 case_, .int .i64 value, .int .i64 mate, .bool send, .bool ok] 53 :: F)) ?_ ?_
   ·refine ⟨H.ldi 0 rfl (v := .bool send) rfl ?_⟩
    refine BB.k (BB.vr fun q10 e10 => ?_)
    cases q10
    ·have h10 : send = true := by simpa using e10
     subst h10
     exact ⟨false, ⟨rfl, trivial⟩, by simp [*], H⟩
    have h10 : send = false := by simpa using e10
    subst h10
    refine H.ldi 0 rfl (v := .bool ok) rfl (BB.k (BB.vr fun q11 e11 => ?_))
    exact ⟨q11, ⟨rfl, trivial⟩, by simp [*], H⟩
   rintro P s w ⟨hc, H⟩
   refine ⟨⟨H.ldi 0 rfl (v := .int .i64 kind) rfl ?_⟩⟩
   refine BkX.cut (id := 0) (ι := Bool) [(11, 13), (53, 272)] (by kernel_rfl) (fun O => [(11, .bool O)]) (fun O w => okF ⟨kind, g, chan, case_, value, mate, send, ok⟩ = O ∧ SL w (row b1 #[.int .i64 kind, .int .i64 g, .int .i64 chan, .int .i64 case_, .int .i64 value, .int .i64 mate, .bool send, .bool ok] 53 :: F)) ?_ ?_
   ·refine ⟨⟨BB.vr fun q12 e12 => ?_⟩⟩
    cases q12
    ·have h12 := neq_of e12
     refine Cn.no (⟨BB.vr fun q13 e13 => ?_⟩)
     cases q13
     ·have h13 := neq_of e13
      refine Cn.no (⟨BB.vr fun q14 e14 => ?_⟩)
      cases q14
      ·have h14 := neq_of e14
       refine Cn.no (⟨BB.vr fun q15 e15 => ?_⟩)
       cases q15
       ·have h15 := neq_of e15
        refine Cn.no (⟨BB.vr fun q16 e16 => ?_⟩)
        cases q16
        ·have h16 := neq_of e16
         refine Cn.no (⟨BB.vr fun q17 e17 => ?_⟩)
         cases q17
         ·have h17 := neq_of e17
          refine Cn.no (⟨BB.vr fun q18 e18 => ?_⟩)
          cases q18
          ·have h18 := neq_of e18
           refine Cn.no (⟨BB.vr fun q19 e19 => ?_⟩)
           cases q19
           ·have h19 := neq_of e19
            refine Cn.no (⟨BB.vr fun q20 e20 => ?_⟩)
            cases q20
            ·have h20 := neq_of e20
             refine Cn.no (⟨?_⟩)
             cases q3
             ·have h3 := neq_of e3
              exact ⟨false, ⟨rfl, trivial⟩, by simp [okF, *], H⟩
             have h3 := eq_of_beq e3
             subst h3
             cases q5
             ·have h5 := neq_of e5
              exact ⟨false, ⟨rfl, trivial⟩, by simp [okF, *], H⟩
             have h5 := eq_of_beq e5
             subst h5
             refine H.ldi 0 rfl (v := .int .i64 value) rfl (BB.vr fun q21 e21 => ?_)
             cases q21
             ·have h21 := neq_of e21
              exact ⟨false, ⟨rfl, trivial⟩, by simp [okF, *], H⟩
             have h21 := eq_of_beq e21
             subst h21
             cases q7
             ·have h7 := neq_of e7
              exact ⟨false, ⟨rfl, trivial⟩, by simp [okF, *], H⟩
             have h7 := eq_of_beq e7
             subst h7
             exact ⟨P, ⟨rfl, trivial⟩, by simp [okF, *], H⟩
            have h20 := eq_of_beq e20
            subst h20
            refine Cn.yes (⟨?_⟩)
            cases q3
            ·have h3 := neq_of e3
             exact ⟨false, ⟨rfl, trivial⟩, by simp [okF, *], H⟩
            have h3 := eq_of_beq e3
            subst h3
            cases q5
            ·have h5 := neq_of e5
             exact ⟨false, ⟨rfl, trivial⟩, by simp [okF, *], H⟩
            have h5 := eq_of_beq e5
            subst h5
            refine H.ldi 0 rfl (v := .int .i64 value) rfl (Cl.s (sl_within H value 0 7) fun w H => ?_)
            refine BB.vr fun q22 e22 => ?_
            cases q22
            ·exact ⟨false, ⟨rfl, trivial⟩, by simp [okF, *], H⟩
            cases q7
            ·have h7 := neq_of e7
             exact ⟨false, ⟨rfl, trivial⟩, by simp [okF, *], H⟩
            have h7 := eq_of_beq e7
            subst h7
            exact ⟨P, ⟨rfl, trivial⟩, by simp [okF, *], H⟩
           have h19 := eq_of_beq e19
           subst h19
           refine Cn.yes (Cn.yes (⟨?_⟩))
           cases q3
           ·have h3 := neq_of e3
            exact ⟨false, ⟨rfl, trivial⟩, by simp [okF, *], H⟩
           have h3 := eq_of_beq e3
           subst h3
           cases q5
           ·have h5 := neq_of e5
            exact ⟨false, ⟨rfl, trivial⟩, by simp [okF, *], H⟩
           have h5 := eq_of_beq e5
           subst h5
           refine H.ldi 0 rfl (v := .int .i64 value) rfl (Cl.s (sl_within H value 0 7) fun w H => ?_)
           refine BB.vr fun q23 e23 => ?_
           cases q23
           ·exact ⟨false, ⟨rfl, trivial⟩, by simp [okF, *], H⟩
           cases q7
           ·have h7 := neq_of e7
            exact ⟨false, ⟨rfl, trivial⟩, by simp [okF, *], H⟩
           have h7 := eq_of_beq e7
           subst h7
           exact ⟨P, ⟨rfl, trivial⟩, by simp [okF, *], H⟩
          have h18 := eq_of_beq e18
          subst h18
          refine Cn.yes (⟨?_⟩)
          cases q4
          ·exact ⟨false, ⟨rfl, trivial⟩, by simp [okF, *], H⟩
          cases q6
          ·exact ⟨false, ⟨rfl, trivial⟩, by simp [okF, *], H⟩
          cases q9
          ·exact ⟨false, ⟨rfl, trivial⟩, by simp [okF, *], H⟩
          cases q8
          ·exact ⟨false, ⟨rfl, trivial⟩, by simp [okF, *], H⟩
          refine H.ldi 0 rfl (v := .bool ok) rfl (BB.k ?_)
          cases ok
          ·refine H.ldi 0 rfl (v := .bool send) rfl (BB.k (BB.vr fun q24 e24 => ?_))
           cases q24
           ·have h24 : send = true := by simpa using e24
            subst h24
            exact ⟨false, ⟨rfl, trivial⟩, by simp [okF, *], H⟩
           have h24 : send = false := by simpa using e24
           subst h24
           refine H.ldi 0 rfl (v := .int .i64 value) rfl (BB.vr fun q25 e25 => ?_)
           exact ⟨q25, ⟨rfl, trivial⟩, by simp [okF, *], H⟩
          exact ⟨true, ⟨rfl, trivial⟩, by simp [okF, *], H⟩
         have h17 := eq_of_beq e17
         subst h17
         refine Cn.yes (⟨?_⟩)
         cases q5
         ·have h5 := neq_of e5
          refine ⟨H.ldi 0 rfl (v := .int .i64 case_) rfl ?_⟩
          refine Cl.s (sl_within H case_ 0 4) fun w H => ?_
          refine BB.vr fun q26 e26 => ?_
          cases q26
          ·refine ⟨?_⟩
           exact ⟨false, ⟨rfl, trivial⟩, by simp [okF, *], H⟩
          cases q3
          ·have h3 := neq_of e3
           refine ⟨?_⟩
           exact ⟨false, ⟨rfl, trivial⟩, by simp [okF, *], H⟩
          have h3 := eq_of_beq e3
          subst h3
          refine H.ldi 0 rfl (v := .bool send) rfl (BB.k (BB.vr fun q27 e27 => ?_))
          cases q27
          ·have h27 : send = true := by simpa using e27
           subst h27
           refine ⟨?_⟩
           exact ⟨false, ⟨rfl, trivial⟩, by simp [okF, *], H⟩
          have h27 : send = false := by simpa using e27
          subst h27
          refine H.ldi 0 rfl (v := .int .i64 value) rfl (BB.vr fun q28 e28 => ?_)
          refine ⟨?_⟩
          cases q28
          ·have h28 := neq_of e28
           exact ⟨false, ⟨rfl, trivial⟩, by simp [okF, *], H⟩
          have h28 := eq_of_beq e28
          subst h28
          cases q7
          ·have h7 := neq_of e7
           exact ⟨false, ⟨rfl, trivial⟩, by simp [okF, *], H⟩
          have h7 := eq_of_beq e7
          subst h7
          refine H.ldi 0 rfl (v := .bool ok) rfl (BB.k (BB.vr fun q29 e29 => ?_))
          exact ⟨q29, ⟨rfl, trivial⟩, by simp [okF, *], H⟩
         have h5 := eq_of_beq e5
         subst h5
         cases q3
         ·have h3 := neq_of e3
          cases q4
          ·refine ⟨H.ldi 0 rfl (v := .int .i64 (-1)) rfl ?_⟩
           refine Cl.s (sl_within H (-1) 0 4) fun w H => ?_
           refine BB.vr fun q30 e30 => ?_
           cases q30
           ·refine ⟨?_⟩
            exact ⟨false, ⟨rfl, trivial⟩, by simp [okF, *], H⟩
           refine ⟨?_⟩
           exact ⟨false, ⟨rfl, trivial⟩, by simp [okF, *], H⟩
          refine H.ldi 0 rfl (v := .bool send) rfl (BB.k ?_)
          cases send
          ·refine H.ldi 0 rfl (v := .bool false) rfl (BB.no rfl (BB.yes rfl (H.ldi 0 rfl (v := .int .i64 value) rfl (BB.vr fun q31 e31 => ?_))))
           refine ⟨H.ldi 0 rfl (v := .int .i64 (-1)) rfl ?_⟩
           refine Cl.s (sl_within H (-1) 0 4) fun w H => ?_
           refine BB.vr fun q32 e32 => ?_
           cases q32
           ·refine ⟨?_⟩
            cases q31
            ·have h31 := neq_of e31
             exact ⟨false, ⟨rfl, trivial⟩, by simp [okF, *], H⟩
            have h31 := eq_of_beq e31
            subst h31
            cases q7
            ·have h7 := neq_of e7
             exact ⟨false, ⟨rfl, trivial⟩, by simp [okF, *], H⟩
            have h7 := eq_of_beq e7
            subst h7
            refine H.ldi 0 rfl (v := .bool ok) rfl (BB.k (BB.vr fun q33 e33 => ?_))
            exact ⟨q33, ⟨rfl, trivial⟩, by simp [okF, *], H⟩
           refine ⟨?_⟩
           cases q31
           ·have h31 := neq_of e31
            exact ⟨false, ⟨rfl, trivial⟩, by simp [okF, *], H⟩
           have h31 := eq_of_beq e31
           subst h31
           cases q7
           ·have h7 := neq_of e7
            exact ⟨false, ⟨rfl, trivial⟩, by simp [okF, *], H⟩
           have h7 := eq_of_beq e7
           subst h7
           refine H.ldi 0 rfl (v := .bool ok) rfl (BB.k (BB.vr fun q34 e34 => ?_))
           exact ⟨q34, ⟨rfl, trivial⟩, by simp [okF, *], H⟩
          cases q9
          ·refine H.ldi 0 rfl (v := .bool true) rfl (BB.yes rfl (BB.no rfl (⟨H.ldi 0 rfl (v := .int .i64 (-1)) rfl ?_⟩)))
           refine Cl.s (sl_within H (-1) 0 4) fun w H => ?_
           refine BB.vr fun q35 e35 => ?_
           cases q35
           ·refine ⟨?_⟩
            exact ⟨false, ⟨rfl, trivial⟩, by simp [okF, *], H⟩
           refine ⟨?_⟩
           exact ⟨false, ⟨rfl, trivial⟩, by simp [okF, *], H⟩
          refine ⟨H.ldi 0 rfl (v := .int .i64 (-1)) rfl ?_⟩
          refine Cl.s (sl_within H (-1) 0 4) fun w H => ?_
          refine BB.vr fun q36 e36 => ?_
          cases q36
          ·refine ⟨?_⟩
           cases q7
           ·have h7 := neq_of e7
            exact ⟨false, ⟨rfl, trivial⟩, by simp [okF, *], H⟩
           have h7 := eq_of_beq e7
           subst h7
           refine H.ldi 0 rfl (v := .bool ok) rfl (BB.k (BB.vr fun q37 e37 => ?_))
           exact ⟨q37, ⟨rfl, trivial⟩, by simp [okF, *], H⟩
          refine ⟨?_⟩
          cases q7
          ·have h7 := neq_of e7
           exact ⟨false, ⟨rfl, trivial⟩, by simp [okF, *], H⟩
          have h7 := eq_of_beq e7
          subst h7
          refine H.ldi 0 rfl (v := .bool ok) rfl (BB.k (BB.vr fun q38 e38 => ?_))
          exact ⟨q38, ⟨rfl, trivial⟩, by simp [okF, *], H⟩
         have h3 := eq_of_beq e3
         subst h3
         refine H.ldi 0 rfl (v := .bool send) rfl (BB.k ?_)
         cases send
         ·refine H.ldi 0 rfl (v := .bool false) rfl (BB.no rfl (BB.yes rfl (H.ldi 0 rfl (v := .int .i64 value) rfl (BB.vr fun q39 e39 => ?_))))
          refine ⟨H.ldi 0 rfl (v := .int .i64 (-1)) rfl ?_⟩
          refine Cl.s (sl_within H (-1) 0 4) fun w H => ?_
          refine BB.vr fun q40 e40 => ?_
          cases q40
          ·refine ⟨?_⟩
           cases q39
           ·have h39 := neq_of e39
            exact ⟨false, ⟨rfl, trivial⟩, by simp [okF, *], H⟩
           have h39 := eq_of_beq e39
           subst h39
           cases q7
           ·have h7 := neq_of e7
            exact ⟨false, ⟨rfl, trivial⟩, by simp [okF, *], H⟩
           have h7 := eq_of_beq e7
           subst h7
           refine H.ldi 0 rfl (v := .bool ok) rfl (BB.k (BB.vr fun q41 e41 => ?_))
           exact ⟨q41, ⟨rfl, trivial⟩, by simp [okF, *], H⟩
          refine H.ldi 0 rfl (v := .bool false) rfl (BB.no rfl (BB.yes rfl (H.ldi 0 rfl (v := .int .i64 value) rfl (BB.vr fun q42 e42 => ?_))))
          refine ⟨?_⟩
          cases q39
          ·have h39 := neq_of e39
           cases q42
           ·have h42 := neq_of e42
            exact ⟨false, ⟨rfl, trivial⟩, by simp [okF, *], H⟩
           have h42 := eq_of_beq e42
           subst h42
           cases q7
           ·have h7 := neq_of e7
            exact ⟨false, ⟨rfl, trivial⟩, by simp [okF, *], H⟩
           have h7 := eq_of_beq e7
           subst h7
           refine H.ldi 0 rfl (v := .bool ok) rfl (BB.k (BB.vr fun q43 e43 => ?_))
           exact ⟨q43, ⟨rfl, trivial⟩, by simp [okF, *], H⟩
          have h39 := eq_of_beq e39
          subst h39
          cases q7
          ·have h7 := neq_of e7
           exact ⟨false, ⟨rfl, trivial⟩, by simp [okF, *], H⟩
          have h7 := eq_of_beq e7
          subst h7
          refine H.ldi 0 rfl (v := .bool ok) rfl (BB.k (BB.vr fun q44 e44 => ?_))
          exact ⟨q44, ⟨rfl, trivial⟩, by simp [okF, *], H⟩
         cases q9
         ·refine H.ldi 0 rfl (v := .bool true) rfl (BB.yes rfl (BB.no rfl (⟨H.ldi 0 rfl (v := .int .i64 (-1)) rfl ?_⟩)))
          refine Cl.s (sl_within H (-1) 0 4) fun w H => ?_
          refine BB.vr fun q45 e45 => ?_
          cases q45
          ·refine ⟨?_⟩
           exact ⟨false, ⟨rfl, trivial⟩, by simp [okF, *], H⟩
          refine H.ldi 0 rfl (v := .bool true) rfl (BB.yes rfl (BB.no rfl (⟨?_⟩)))
          exact ⟨false, ⟨rfl, trivial⟩, by simp [okF, *], H⟩
         refine ⟨H.ldi 0 rfl (v := .int .i64 (-1)) rfl ?_⟩
         refine Cl.s (sl_within H (-1) 0 4) fun w H => ?_
         refine BB.vr fun q46 e46 => ?_
         cases q46
         ·refine ⟨?_⟩
          cases q7
          ·have h7 := neq_of e7
           exact ⟨false, ⟨rfl, trivial⟩, by simp [okF, *], H⟩
          have h7 := eq_of_beq e7
          subst h7
          refine H.ldi 0 rfl (v := .bool ok) rfl (BB.k (BB.vr fun q47 e47 => ?_))
          exact ⟨q47, ⟨rfl, trivial⟩, by simp [okF, *], H⟩
         refine H.ldi 0 rfl (v := .bool true) rfl (BB.yes rfl (BB.no rfl (⟨?_⟩)))
         cases q7
         ·have h7 := neq_of e7
          exact ⟨false, ⟨rfl, trivial⟩, by simp [okF, *], H⟩
         have h7 := eq_of_beq e7
         subst h7
         refine H.ldi 0 rfl (v := .bool ok) rfl (BB.k (BB.vr fun q48 e48 => ?_))
         exact ⟨q48, ⟨rfl, trivial⟩, by simp [okF, *], H⟩
        have h16 := eq_of_beq e16
        subst h16
        refine Cn.yes (⟨?_⟩)
        cases q4
        ·exact ⟨false, ⟨rfl, trivial⟩, by simp [okF, *], H⟩
        cases q5
        ·have h5 := neq_of e5
         exact ⟨false, ⟨rfl, trivial⟩, by simp [okF, *], H⟩
        have h5 := eq_of_beq e5
        subst h5
        refine H.ldi 0 rfl (v := .int .i64 value) rfl (BB.vr fun q49 e49 => ?_)
        cases q49
        ·have h49 := neq_of e49
         exact ⟨false, ⟨rfl, trivial⟩, by simp [okF, *], H⟩
        have h49 := eq_of_beq e49
        subst h49
        cases q7
        ·have h7 := neq_of e7
         exact ⟨false, ⟨rfl, trivial⟩, by simp [okF, *], H⟩
        have h7 := eq_of_beq e7
        subst h7
        exact ⟨P, ⟨rfl, trivial⟩, by simp [okF, *], H⟩
       have h15 := eq_of_beq e15
       subst h15
       refine Cn.yes (⟨?_⟩)
       cases q4
       ·exact ⟨false, ⟨rfl, trivial⟩, by simp [okF, *], H⟩
       cases q6
       ·exact ⟨false, ⟨rfl, trivial⟩, by simp [okF, *], H⟩
       cases q9
       ·exact ⟨false, ⟨rfl, trivial⟩, by simp [okF, *], H⟩
       cases q7
       ·have h7 := neq_of e7
        cases q8
        ·exact ⟨false, ⟨rfl, trivial⟩, by simp [okF, *], H⟩
        refine H.ldi 0 rfl (v := .bool send) rfl (BB.k (BB.vr fun q50 e50 => ?_))
        cases q50
        ·have h50 : send = true := by simpa using e50
         subst h50
         exact ⟨false, ⟨rfl, trivial⟩, by simp [okF, *], H⟩
        have h50 : send = false := by simpa using e50
        subst h50
        refine H.ldi 0 rfl (v := .bool ok) rfl (BB.k ?_)
        cases ok
        ·refine H.ldi 0 rfl (v := .int .i64 value) rfl (BB.vr fun q51 e51 => ?_)
         cases q51
         ·have h51 := neq_of e51
          exact ⟨false, ⟨rfl, trivial⟩, by simp [okF, *], H⟩
         have h51 := eq_of_beq e51
         subst h51
         exact ⟨false, ⟨rfl, trivial⟩, by simp [okF, *], H⟩
        exact ⟨true, ⟨rfl, trivial⟩, by simp [okF, *], H⟩
       have h7 := eq_of_beq e7
       subst h7
       refine H.ldi 0 rfl (v := .bool send) rfl (BB.k (BB.vr fun q52 e52 => ?_))
       cases q52
       ·have h52 : send = true := by simpa using e52
        subst h52
        exact ⟨false, ⟨rfl, trivial⟩, by simp [okF, *], H⟩
       have h52 : send = false := by simpa using e52
       subst h52
       refine H.ldi 0 rfl (v := .bool ok) rfl (BB.k ?_)
       cases ok
       ·refine H.ldi 0 rfl (v := .int .i64 value) rfl (BB.vr fun q53 e53 => ?_)
        cases q53
        ·have h53 := neq_of e53
         exact ⟨false, ⟨rfl, trivial⟩, by simp [okF, *], H⟩
        have h53 := eq_of_beq e53
        subst h53
        exact ⟨true, ⟨rfl, trivial⟩, by simp [okF, *], H⟩
       exact ⟨true, ⟨rfl, trivial⟩, by simp [okF, *], H⟩
      have h14 := eq_of_beq e14
      subst h14
      refine Cn.yes (⟨?_⟩)
      cases q4
      ·exact ⟨false, ⟨rfl, trivial⟩, by simp [okF, *], H⟩
      cases q6
      ·exact ⟨false, ⟨rfl, trivial⟩, by simp [okF, *], H⟩
      cases q9
      ·exact ⟨false, ⟨rfl, trivial⟩, by simp [okF, *], H⟩
      cases q7
      ·have h7 := neq_of e7
       cases q8
       ·exact ⟨false, ⟨rfl, trivial⟩, by simp [okF, *], H⟩
       refine H.ldi 0 rfl (v := .bool send) rfl (BB.k ?_)
       cases send
       ·exact ⟨false, ⟨rfl, trivial⟩, by simp [okF, *], H⟩
       refine H.ldi 0 rfl (v := .bool ok) rfl (BB.k (BB.vr fun q54 e54 => ?_))
       exact ⟨q54, ⟨rfl, trivial⟩, by simp [okF, *], H⟩
      have h7 := eq_of_beq e7
      subst h7
      refine H.ldi 0 rfl (v := .bool send) rfl (BB.k ?_)
      cases send
      ·exact ⟨false, ⟨rfl, trivial⟩, by simp [okF, *], H⟩
      refine H.ldi 0 rfl (v := .bool ok) rfl (BB.k (BB.vr fun q55 e55 => ?_))
      exact ⟨q55, ⟨rfl, trivial⟩, by simp [okF, *], H⟩
     have h13 := eq_of_beq e13
     subst h13
     refine Cn.yes (⟨?_⟩)
     cases q4
     ·exact ⟨false, ⟨rfl, trivial⟩, by simp [okF, *], H⟩
     cases q5
     ·have h5 := neq_of e5
      exact ⟨false, ⟨rfl, trivial⟩, by simp [okF, *], H⟩
     have h5 := eq_of_beq e5
     subst h5
     refine H.ldi 0 rfl (v := .int .i64 value) rfl (Cl.s (sl_within H value 0 4) fun w H => ?_)
     refine BB.vr fun q56 e56 => ?_
     cases q56
     ·exact ⟨false, ⟨rfl, trivial⟩, by simp [okF, *], H⟩
     cases q7
     ·have h7 := neq_of e7
      exact ⟨false, ⟨rfl, trivial⟩, by simp [okF, *], H⟩
     have h7 := eq_of_beq e7
     subst h7
     exact ⟨P, ⟨rfl, trivial⟩, by simp [okF, *], H⟩
    have h12 := eq_of_beq e12
    subst h12
    refine Cn.yes (⟨?_⟩)
    cases q3
    ·have h3 := neq_of e3
     exact ⟨false, ⟨rfl, trivial⟩, by simp [okF, *], H⟩
    have h3 := eq_of_beq e3
    subst h3
    cases q5
    ·have h5 := neq_of e5
     exact ⟨false, ⟨rfl, trivial⟩, by simp [okF, *], H⟩
    have h5 := eq_of_beq e5
    subst h5
    refine H.ldi 0 rfl (v := .int .i64 value) rfl (Cl.s (sl_within H value 0 7) fun w H => ?_)
    refine BB.vr fun q57 e57 => ?_
    cases q57
    ·exact ⟨false, ⟨rfl, trivial⟩, by simp [okF, *], H⟩
    cases q8
    ·exact ⟨false, ⟨rfl, trivial⟩, by simp [okF, *], H⟩
    exact ⟨P, ⟨rfl, trivial⟩, by simp [okF, *], H⟩
   rintro O s w ⟨ho, H⟩
   refine ⟨H.ldi 0 rfl (v := .int .i64 kind) rfl ?_⟩
   refine BB.vr fun q58 e58 => ?_
   cases q58
   ·have h58 := neq_of e58
    refine Cn.no (⟨?_⟩)
    cases O
    ·refine ⟨BB.yes rfl ?_⟩
     refine Cn.yes (⟨ret1 (.int .i64 4) rfl (by rfl) ?_⟩)
     exact ⟨by simp [ref12, *], H.tl⟩
    refine H.ldi 0 rfl (v := .int .i64 g) rfl (Cl.s (sl_within H g 0 511) fun w H => ?_)
    refine BB.vr fun q59 e59 => ?_
    refine ⟨?_⟩
    cases q59
    ·refine BB.yes rfl (Cn.yes (⟨ret1 (.int .i64 4) rfl (by rfl) ?_⟩))
     exact ⟨by simp [ref12, *], H.tl⟩
    refine BB.no rfl (Cn.no (⟨ret1 (.int .i64 0) rfl (by rfl) ?_⟩))
    exact ⟨by simp [ref12, *], H.tl⟩
   have h58 := eq_of_beq e58
   subst h58
   refine Cn.yes (⟨?_⟩)
   cases O
   ·refine ⟨BB.yes rfl ?_⟩
    refine Cn.yes (⟨ret1 (.int .i64 4) rfl (by rfl) ?_⟩)
    exact ⟨by simp [ref12, *], H.tl⟩
   refine H.ldi 0 rfl (v := .int .i64 g) rfl (BB.vr fun q60 e60 => ?_)
   refine ⟨?_⟩
   cases q60
   ·have h60 := neq_of e60
    refine BB.yes rfl (Cn.yes (⟨ret1 (.int .i64 4) rfl (by rfl) ?_⟩))
    exact ⟨by simp [ref12, *], H.tl⟩
   have h60 := eq_of_beq e60
   subst h60
   refine BB.no rfl (Cn.no (⟨ret1 (.int .i64 0) rfl (by rfl) ?_⟩))
   exact ⟨by simp [ref12, *], H.tl⟩
  have h2 := of_decide_eq_true e2
  refine Cn.yes (⟨ret1 (.int .i64 1) rfl (by rfl) ?_⟩)
  exact ⟨by simp [ref12, *], H.tl⟩
 have h1 := of_decide_eq_true e1
 refine Cn.yes (⟨ret1 (.int .i64 1) rfl (by rfl) ?_⟩)
 exact ⟨by simp [ref12, *], H.tl⟩
theorem orderedR_of {l : List Ev} {i : Nat} {e : Ev} (hd : l.getD i evz = e) : orderedR l i = (if e.kind ≠ 3 ∧ (e.kind ≠ 4 ∨ e.ok = false) then true else (insR l e.chan (i + 1)).right) := by
 subst hd
 rfl
theorem closedR_of {l : List Ev} {i : Nat} {e : Ev} (hd : l.getD i evz = e) : closedR l i = (if e.kind < 3 ∨ 5 < e.kind then true else if e.kind = 4 ∧ e.ok = false then (insR l e.chan i).closed && (insR l e.chan i).buf.isEmpty else if e.kind = 4 ∧ e.mate < 0 then true else !(insR l e.chan i).closed) := by
 subst hd
 rfl
theorem isEmpty_len (l : List Int) : l.isEmpty = ((l.length : Int) == 0) := by
 cases l with
 | nil => rfl
 | cons a l =>
  have : ((((a :: l).length : Int)) == 0) = false := beq_eq_false_iff_ne.2 (by simp only [List.length_cons]; omega)
  rw [this]
  rfl
set_option maxHeartbeats 2000000 in
theorem r_ordered {w : World} {F : List Piece} {A : Piece} {lb lo lc i : Nat} {l : List Ev} (hA : EvA A lb lo l) (hlc : l.length ≤ lc) (hi : i < l.length) (hll : l.length ≤ 2000) (H : SL w (A :: F)) :
  Calls Tryz.prog 77 #[(.slice (some ⟨lb, lo, none⟩) l.length lc), .int .i64 (i : Int)] w fun o w' => o = .returned (.bool (orderedR l i)) ∧ SL w' (A :: F) := by
 obtain ⟨e0, e1⟩ : ∃ e, l[i]'hi = e := ⟨_, rfl⟩
 have he : l[i]? = some e0 := by rw [← e1]; exact List.getElem?_eq_getElem _
 clear e1
 obtain ⟨kind, g, chan, case_, value, mate, send, ok⟩ := e0
 have hd : l.getD i evz = ⟨kind, g, chan, case_, value, mate, send, ok⟩ := by rw [List.getD_eq_getElem?_getD, he]; rfl
 refine calls_d (args := [_, _]) Tryz.func77 rfl ?_
 refine ⟨⟨Ix.at i 8 (by kernel_rfl) (rfl) (hi) ?_⟩⟩
 refine H.ldEv 0 rfl hA i he (Nw.as ev0C 53 rfl H fun b5 w H => ?_)
 refine SL.stEv H rfl rfl fun w H => ?_
 refine ⟨H.ldi 0 rfl (v := .int .i64 kind) rfl ?_⟩
 refine BB.vr fun q1 e1 => ?_
 cases q1
 ·have h1 := bne_eq_false_iff_eq.1 e1
  subst h1
  refine Cn.no (⟨H.ldi 0 rfl (v := .int .i64 chan) rfl ?_⟩)
  refine IW.by (m := ↑i + 1) (wrap_id (by omega) (by omega)) (Cl.b (r_in (c := chan) (n := (i + 1)) hA (by omega) hll H.up1) ?_)
  rintro _ w ⟨v, rfl, H⟩
  refine ⟨_, rfl, ?_⟩
  have hob := SL.slcForm H
  obtain ⟨qa, qc, rfl⟩ := hob
  have hob : ∃ s, insR l chan (i + 1) = s := ⟨_, rfl⟩
  obtain ⟨S0, hS0⟩ := hob
  rw [hS0] at H
  obtain ⟨zs, zb, zc, zr⟩ := S0
  dsimp only at H
  rw [hS0]
  refine ret1 (.bool zr) rfl (by rfl) ?_
  have hc : orderedR l i = (zr) := by rw [orderedR_of hd, if_neg (by simp [*]), hS0]
  rw [hc]
  exact ⟨rfl, H.tl.drop1⟩
 have h1 := bne_iff_ne.1 e1
 refine H.ldi 0 rfl (v := .int .i64 kind) rfl (BB.vr fun q2 e2 => ?_)
 cases q2
 ·have h2 := bne_eq_false_iff_eq.1 e2
  subst h2
  refine H.ldi 0 rfl (v := .bool ok) rfl (BB.k (BB.vr fun q3 e3 => ?_))
  cases q3
  ·have h3 : ok = true := by simpa using e3
   subst h3
   refine Cn.no (⟨H.ldi 0 rfl (v := .int .i64 chan) rfl ?_⟩)
   refine IW.by (m := ↑i + 1) (wrap_id (by omega) (by omega)) (Cl.b (r_in (c := chan) (n := (i + 1)) hA (by omega) hll H.up1) ?_)
   rintro _ w ⟨v, rfl, H⟩
   refine ⟨_, rfl, ?_⟩
   have hob := SL.slcForm H
   obtain ⟨qa, qc, rfl⟩ := hob
   have hob : ∃ s, insR l chan (i + 1) = s := ⟨_, rfl⟩
   obtain ⟨S0, hS0⟩ := hob
   rw [hS0] at H
   obtain ⟨zs, zb, zc, zr⟩ := S0
   dsimp only at H
   rw [hS0]
   refine ret1 (.bool zr) rfl (by rfl) ?_
   have hc : orderedR l i = (zr) := by rw [orderedR_of hd, if_neg (by simp [*]), hS0]
   rw [hc]
   exact ⟨rfl, H.tl.drop1⟩
  have h3 : ok = false := by simpa using e3
  subst h3
  refine Cn.yes (⟨ret1 (.bool true) rfl (by rfl) ?_⟩)
  have hc : orderedR l i = (true) := by rw [orderedR_of hd]; simp [*]
  rw [hc]
  exact ⟨rfl, H.tl⟩
 have h2 := bne_iff_ne.1 e2
 refine Cn.yes (⟨ret1 (.bool true) rfl (by rfl) ?_⟩)
 have hc : orderedR l i = (true) := by rw [orderedR_of hd]; simp [*]
 rw [hc]
 exact ⟨rfl, H.tl⟩
set_option maxHeartbeats 2000000 in
theorem r_closed {w : World} {F : List Piece} {A : Piece} {lb lo lc i : Nat} {l : List Ev} (hA : EvA A lb lo l) (hlc : l.length ≤ lc) (hi : i < l.length) (hll : l.length ≤ 2000) (H : SL w (A :: F)) :
  Calls Tryz.prog 78 #[(.slice (some ⟨lb, lo, none⟩) l.length lc), .int .i64 (i : Int)] w fun o w' => o = .returned (.bool (closedR l i)) ∧ SL w' (A :: F) := by
 obtain ⟨e0, e1⟩ : ∃ e, l[i]'hi = e := ⟨_, rfl⟩
 have he : l[i]? = some e0 := by rw [← e1]; exact List.getElem?_eq_getElem _
 clear e1
 obtain ⟨kind, g, chan, case_, value, mate, send, ok⟩ := e0
 have hd : l.getD i evz = ⟨kind, g, chan, case_, value, mate, send, ok⟩ := by rw [List.getD_eq_getElem?_getD, he]; rfl
 refine calls_d (args := [_, _]) Tryz.func78 rfl ?_
 refine ⟨⟨Ix.at i 8 (by kernel_rfl) (rfl) (hi) ?_⟩⟩
 refine H.ldEv 0 rfl hA i he (Nw.as ev0C 53 rfl H fun b5 w H => ?_)
 refine SL.stEv H rfl rfl fun w H => ?_
 refine ⟨H.ldi 0 rfl (v := .int .i64 kind) rfl ?_⟩
 refine BB.vr fun q1 e1 => ?_
 cases q1
 ·have h1 := of_decide_eq_false e1
  refine H.ldi 0 rfl (v := .int .i64 kind) rfl (BB.vr fun q2 e2 => ?_)
  cases q2
  ·have h2 := of_decide_eq_false e2
   refine Cn.no (⟨H.ldi 0 rfl (v := .int .i64 chan) rfl ?_⟩)
   refine Cl.b (r_in (c := chan) (n := i) hA (by omega) hll H.up1) ?_
   rintro _ w ⟨v, rfl, H⟩
   refine ⟨_, rfl, ?_⟩
   have hob := SL.slcForm H
   obtain ⟨qa, qc, rfl⟩ := hob
   have hob : ∃ s, insR l chan i = s := ⟨_, rfl⟩
   obtain ⟨S0, hS0⟩ := hob
   rw [hS0] at H
   obtain ⟨zs, zb, zc, zr⟩ := S0
   dsimp only at H
   rw [hS0]
   refine Nw.as #[.int .i64 0, .slice none 0 0, .bool false, .bool false] 186 rfl H fun b6 w H => ?_
   refine H.st0 (cs' := #[.int .i64 zs, .slice none 0 0, .bool false, .bool false]) rfl rfl rfl fun w H => ?_
   refine H.st0 (cs' := #[.int .i64 zs, .slice qa zb.length qc, .bool false, .bool false]) rfl rfl rfl fun w H => ?_
   refine H.st0 (cs' := #[.int .i64 zs, .slice qa zb.length qc, .bool zc, .bool false]) rfl rfl rfl fun w H => ?_
   refine H.st0 (cs' := #[.int .i64 zs, .slice qa zb.length qc, .bool zc, .bool zr]) rfl rfl rfl fun w H => ?_
   refine ⟨H.ldi 3 rfl (v := .int .i64 kind) rfl ?_⟩
   refine BB.vr fun q3 e3 => ?_
   cases q3
   ·have h3 := neq_of e3
    refine Cn.no (⟨H.ldi 3 rfl (v := .int .i64 kind) rfl ?_⟩)
    refine BB.no (beq_eq_false_iff_ne.2 h3) (Cn.no (⟨H.ldi 0 rfl (v := .bool zc) rfl ?_⟩))
    refine BB.k (BB.k (ret1 (.bool (!zc)) rfl (by rfl) ?_))
    have hc : closedR l i = (!zc) := by rw [closedR_of hd, hS0]; first | (simp [isEmpty_len, *]; done) | (rw [if_neg (by omega)]; simp [isEmpty_len, *])
    rw [hc]
    have q := H.pi [2] 4
    simp only [pl, nth, drL] at q
    exact ⟨rfl, q⟩
   have h3 := eq_of_beq e3
   subst h3
   refine H.ldi 3 rfl (v := .bool ok) rfl (BB.k (BB.vr fun q4 e4 => ?_))
   cases q4
   ·have h4 : ok = true := by simpa using e4
    subst h4
    refine Cn.no (⟨H.ldi 3 rfl (v := .int .i64 4) rfl ?_⟩)
    refine BB.yes rfl (H.ldi 3 rfl (v := .int .i64 mate) rfl (BB.vr fun q5 e5 => ?_))
    cases q5
    ·have h5 := of_decide_eq_false e5
     refine Cn.no (⟨H.ldi 0 rfl (v := .bool zc) rfl ?_⟩)
     refine BB.k (BB.k (ret1 (.bool (!zc)) rfl (by rfl) ?_))
     have hc : closedR l i = (!zc) := by rw [closedR_of hd, hS0]; first | (simp [isEmpty_len, *]; done) | (rw [if_neg (by omega)]; simp [isEmpty_len, *])
     rw [hc]
     have q := H.pi [2] 4
     simp only [pl, nth, drL] at q
     exact ⟨rfl, q⟩
    have h5 := of_decide_eq_true e5
    refine Cn.yes (⟨ret1 (.bool true) rfl (by rfl) ?_⟩)
    have hc : closedR l i = (true) := by rw [closedR_of hd, hS0]; first | (simp [isEmpty_len, *]; done) | (rw [if_neg (by omega)]; simp [isEmpty_len, *])
    rw [hc]
    have q := H.pi [2] 4
    simp only [pl, nth, drL] at q
    exact ⟨rfl, q⟩
   have h4 : ok = false := by simpa using e4
   subst h4
   refine Cn.yes (⟨H.ldi 0 rfl (v := .bool zc) rfl ?_⟩)
   refine BB.k ?_
   cases zc
   ·refine ret1 (.bool false) rfl (by rfl) ?_
    have hc : closedR l i = (false) := by rw [closedR_of hd, hS0]; first | (simp [isEmpty_len, *]; done) | (rw [if_neg (by omega)]; simp [isEmpty_len, *])
    rw [hc]
    have q := H.pi [2] 4
    simp only [pl, nth, drL] at q
    exact ⟨rfl, q⟩
   refine H.ldi 0 rfl (v := .slice qa zb.length qc) rfl (BB.k (ret1 (.bool ((↑zb.length : Int) == 0)) rfl (by rfl) ?_))
   have hc : closedR l i = ((↑zb.length : Int) == 0) := by rw [closedR_of hd, hS0]; first | (simp [isEmpty_len, *]; done) | (rw [if_neg (by omega)]; simp [isEmpty_len, *])
   rw [hc]
   have q := H.pi [2] 4
   simp only [pl, nth, drL] at q
   exact ⟨rfl, q⟩
  have h2 := of_decide_eq_true e2
  refine Cn.yes (⟨ret1 (.bool true) rfl (by rfl) ?_⟩)
  have hc : closedR l i = (true) := by rw [closedR_of hd]; first | rw [if_pos (by omega)] | simp [*]
  rw [hc]
  exact ⟨rfl, H.tl⟩
 have h1 := of_decide_eq_true e1
 refine Cn.yes (⟨ret1 (.bool true) rfl (by rfl) ?_⟩)
 have hc : closedR l i = (true) := by rw [closedR_of hd]; first | rw [if_pos (by omega)] | simp [*]
 rw [hc]
 exact ⟨rfl, H.tl⟩
theorem brR_of {l : List Ev} {i : Nat} {e : Ev} (hd : l.getD i evz = e) : brR l i = (if ref12 e ≠ 0 then 1 else if crewR l i = false then 2 else if madeR l i = false then 3 else if servedR l i = false then 4 else if orderedR l i = false then 5 else if closedR l i = false then 6 else 0) := by
 subst hd
 rfl
theorem below_succ2 {p : Nat → Prop} {i : Nat} (h : ∀ k, k < i → p k) (h0 : p i) : ∀ k, k < i + 1 → p k := fun k hk => by
 rcases Nat.lt_or_ge k i with h1 | h1
 ·exact h k h1
 ·obtain rfl : k = i := by omega
  exact h0
set_option maxHeartbeats 4000000 in
theorem r_check14 {w : World} {F : List Piece} {A : Piece} {lb lo lc : Nat} {l : List Ev} (hA : EvA A lb lo l) (hlc : l.length ≤ lc) (h0 : 0 < l.length) (hll : l.length ≤ 2000) (H : SL w (A :: F)) :
  Calls Tryz.prog 41 #[(.slice (some ⟨lb, lo, none⟩) l.length lc)] w fun o w' => o = .returned (.agg #[.int .i64 (checkR l).1, .int .i64 (checkR l).2]) ∧ SL w' (A :: F) := by
 obtain ⟨es0, es1⟩ : ∃ e, l[(l.length - 1)]'(by omega) = e := ⟨_, rfl⟩
 have hs : l[(l.length - 1)]? = some es0 := by rw [← es1]; exact List.getElem?_eq_getElem _
 clear es1
 obtain ⟨skind, sg, schan, scase_, svalue, smate, ssend, sok⟩ := es0
 have hds : l.getD (l.length - 1) evz = ⟨skind, sg, schan, scase_, svalue, smate, ssend, sok⟩ := by rw [List.getD_eq_getElem?_getD, hs]; rfl
 refine calls_d (args := [_]) Tryz.func41 rfl ?_
 refine ⟨Nw.as #[.int .i64 0, .int .i64 0] 83 rfl H fun b2 w H => ?_⟩
 refine ⟨⟨den.loop (ι := Nat) [(3, 3), (6, 51)] (by kernel_rfl) (fun i => [(6, .int .i64 ↑i)]) (fun i w => (i ≤ l.length ∧ ∀ k, k < i → brR l k = 0) ∧ SL w (row b2 #[.int .i64 0, .int .i64 0] 83 :: A :: F)) (fun i => l.length - i) 0 ⟨rfl, trivial⟩ ⟨⟨Nat.zero_le _, fun k hk => absurd hk (Nat.not_lt_zero _)⟩, H⟩ ?_⟩⟩
 rintro i s w ⟨hc, H⟩
 obtain ⟨hi', hb0⟩ := hc
 by_cases hi : i < l.length
 ·have hob : ∃ e, l[i]'(by omega) = e := ⟨_, rfl⟩
  obtain ⟨e0, e1⟩ := hob
  have he : l[i]? = some e0 := by rw [← e1]; exact List.getElem?_eq_getElem _
  clear e1
  obtain ⟨kind, g, chan, case_, value, mate, send, ok⟩ := e0
  have hd : l.getD i evz = ⟨kind, g, chan, case_, value, mate, send, ok⟩ := by rw [List.getD_eq_getElem?_getD, he]; rfl
  have hbr := brR_of hd
  refine ⟨BB.yd ?_⟩
  refine Cn.yes (⟨⟨⟨BB.nd ?_⟩⟩⟩)
  refine Ix.at i 8 (by kernel_rfl) (rfl) (hi) ?_
  refine H.ldEv 1 rfl hA i he (Cl.s (r_check H ⟨kind, g, chan, case_, value, mate, send, ok⟩) fun w H => ?_)
  refine BB.vr fun q1 e1 => ?_
  cases q1
  ·have h1 := bne_eq_false_iff_eq.1 e1
   refine Cn.no (⟨Cl.s (r_crew hA hlc hi hll H.up1) fun w H => ?_⟩)
   replace H := H.up1
   refine BB.vr fun q2 e2 => ?_
   cases q2
   ·refine BB.yes rfl (Cn.yes (⟨Mn.pure (.agg #[.int .i64 2, .int .i64 ↑i]) (by kernel_rfl) ?_⟩))
    refine H.st0 (cs' := #[.int .i64 2, .int .i64 0]) rfl rfl rfl fun w H => ?_
    refine H.st0 (cs' := #[.int .i64 2, .int .i64 ↑i]) rfl rfl rfl fun w H => ?_
    refine retC H 0 rfl rfl (by rfl) (by kernel_rfl) (by kernel_rfl) ?_
    have hb : brR l i = 2 := by rw [hbr]; simp [*]
    have hc : checkR l = (2, i) := by unfold checkR; rw [scan_hit hi hb0 (by rw [hb]; decide), hb]; rfl
    rw [hc]
    exact ⟨rfl, H.tl⟩
   refine BB.no rfl (Cn.no (⟨Cl.s (r_made hA hlc hi hll H.up1) fun w H => ?_⟩))
   replace H := H.up1
   refine BB.vr fun q3 e3 => ?_
   cases q3
   ·refine BB.yes rfl (Cn.yes (⟨Mn.pure (.agg #[.int .i64 3, .int .i64 ↑i]) (by kernel_rfl) ?_⟩))
    refine H.st0 (cs' := #[.int .i64 3, .int .i64 0]) rfl rfl rfl fun w H => ?_
    refine H.st0 (cs' := #[.int .i64 3, .int .i64 ↑i]) rfl rfl rfl fun w H => ?_
    refine retC H 0 rfl rfl (by rfl) (by kernel_rfl) (by kernel_rfl) ?_
    have hb : brR l i = 3 := by rw [hbr]; simp [*]
    have hc : checkR l = (3, i) := by unfold checkR; rw [scan_hit hi hb0 (by rw [hb]; decide), hb]; rfl
    rw [hc]
    exact ⟨rfl, H.tl⟩
   refine BB.no rfl (Cn.no (⟨Cl.s (r_served hA hlc hi hll H.up1) fun w H => ?_⟩))
   replace H := H.up1
   refine BB.vr fun q4 e4 => ?_
   cases q4
   ·refine BB.yes rfl (Cn.yes (⟨Mn.pure (.agg #[.int .i64 4, .int .i64 ↑i]) (by kernel_rfl) ?_⟩))
    refine H.st0 (cs' := #[.int .i64 4, .int .i64 0]) rfl rfl rfl fun w H => ?_
    refine H.st0 (cs' := #[.int .i64 4, .int .i64 ↑i]) rfl rfl rfl fun w H => ?_
    refine retC H 0 rfl rfl (by rfl) (by kernel_rfl) (by kernel_rfl) ?_
    have hb : brR l i = 4 := by rw [hbr]; simp [*]
    have hc : checkR l = (4, i) := by unfold checkR; rw [scan_hit hi hb0 (by rw [hb]; decide), hb]; rfl
    rw [hc]
    exact ⟨rfl, H.tl⟩
   refine BB.no rfl (Cn.no (⟨Cl.s (r_ordered hA hlc hi hll H.up1) fun w H => ?_⟩))
   replace H := H.up1
   refine BB.vr fun q5 e5 => ?_
   cases q5
   ·refine BB.yes rfl (Cn.yes (⟨Mn.pure (.agg #[.int .i64 5, .int .i64 ↑i]) (by kernel_rfl) ?_⟩))
    refine H.st0 (cs' := #[.int .i64 5, .int .i64 0]) rfl rfl rfl fun w H => ?_
    refine H.st0 (cs' := #[.int .i64 5, .int .i64 ↑i]) rfl rfl rfl fun w H => ?_
    refine retC H 0 rfl rfl (by rfl) (by kernel_rfl) (by kernel_rfl) ?_
    have hb : brR l i = 5 := by rw [hbr]; simp [*]
    have hc : checkR l = (5, i) := by unfold checkR; rw [scan_hit hi hb0 (by rw [hb]; decide), hb]; rfl
    rw [hc]
    exact ⟨rfl, H.tl⟩
   refine BB.no rfl (Cn.no (⟨Cl.s (r_closed hA hlc hi hll H.up1) fun w H => ?_⟩))
   replace H := H.up1
   refine BB.vr fun q6 e6 => ?_
   cases q6
   ·refine BB.yes rfl (Cn.yes (⟨Mn.pure (.agg #[.int .i64 6, .int .i64 ↑i]) (by kernel_rfl) ?_⟩))
    refine H.st0 (cs' := #[.int .i64 6, .int .i64 0]) rfl rfl rfl fun w H => ?_
    refine H.st0 (cs' := #[.int .i64 6, .int .i64 ↑i]) rfl rfl rfl fun w H => ?_
    refine retC H 0 rfl rfl (by rfl) (by kernel_rfl) (by kernel_rfl) ?_
    have hb : brR l i = 6 := by rw [hbr]; simp [*]
    have hc : checkR l = (6, i) := by unfold checkR; rw [scan_hit hi hb0 (by rw [hb]; decide), hb]; rfl
    rw [hc]
    exact ⟨rfl, H.tl⟩
   refine BB.no rfl (Cn.no (⟨IW.i i ?_⟩))
   exact ⟨i + 1, ⟨rfl, trivial⟩, ⟨⟨by omega, below_succ2 hb0 (by rw [hbr]; simp [*])⟩, H⟩, (show l.length - (i + 1) < l.length - i by omega)⟩
  have h1 := bne_iff_ne.1 e1
  refine Cn.yes (⟨Mn.pure (.agg #[.int .i64 1, .int .i64 ↑i]) (by kernel_rfl) ?_⟩)
  refine H.st0 (cs' := #[.int .i64 1, .int .i64 0]) rfl rfl rfl fun w H => ?_
  refine H.st0 (cs' := #[.int .i64 1, .int .i64 ↑i]) rfl rfl rfl fun w H => ?_
  refine retC H 0 rfl rfl (by rfl) (by kernel_rfl) (by kernel_rfl) ?_
  have hb : brR l i = 1 := by rw [hbr]; simp [*]
  have hc : checkR l = (1, i) := by unfold checkR; rw [scan_hit hi hb0 (by rw [hb]; decide), hb]; rfl
  rw [hc]
  exact ⟨rfl, H.tl⟩
 have hki : i = l.length := by omega
 subst i
 refine ⟨BB.nd ?_⟩
 refine Cn.no (⟨BB.yd ?_⟩)
 refine IW.by (m := ↑(l.length - 1)) (by rw [show ((l.length : Int) - 1) = ((l.length - 1 : Nat) : Int) by omega]; exact wrap_id (by omega) (by omega)) (Ix.at (l.length - 1) 8 (by kernel_rfl) (rfl) (by omega) ?_)
 refine H.ldEv 1 rfl hA (l.length - 1) hs (Cl.s (r_serves H ⟨skind, sg, schan, scase_, svalue, smate, ssend, sok⟩) fun w H => ?_)
 refine BB.vr fun q7 e7 => ?_
 cases q7
 ·refine Cn.no (⟨Mn.pure (.agg #[.int .i64 0, .int .i64 0]) (by kernel_rfl) ?_⟩)
  refine H.st0 (cs' := #[.int .i64 0, .int .i64 0]) rfl rfl rfl fun w H => ?_
  refine H.st0 (cs' := #[.int .i64 0, .int .i64 0]) rfl rfl rfl fun w H => ?_
  refine retC H 0 rfl rfl (by rfl) (by kernel_rfl) (by kernel_rfl) ?_
  have hc : checkR l = (0, 0) := by unfold checkR; rw [scan_none hb0]; unfold endB; simp only [hds]; simp [*]
  rw [hc]
  exact ⟨rfl, H.tl⟩
 refine Cn.yes (⟨Mn.pure (.agg #[.int .i64 4, .int .i64 ↑l.length]) (by kernel_rfl) ?_⟩)
 refine H.st0 (cs' := #[.int .i64 4, .int .i64 0]) rfl rfl rfl fun w H => ?_
 refine H.st0 (cs' := #[.int .i64 4, .int .i64 ↑l.length]) rfl rfl rfl fun w H => ?_
 refine retC H 0 rfl rfl (by rfl) (by kernel_rfl) (by kernel_rfl) ?_
 have hc : checkR l = (4, l.length) := by unfold checkR; rw [scan_none hb0]; unfold endB; simp only [hds]; simp [*]
 rw [hc]
 exact ⟨rfl, H.tl⟩
end Go.Proofs.YtoamjodmidbmbaaGreatDoor
