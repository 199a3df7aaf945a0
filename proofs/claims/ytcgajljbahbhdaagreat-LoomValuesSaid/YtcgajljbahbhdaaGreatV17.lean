/- Texts of the proof, several in one file: LawH. -/
import Derived.Test.YtcgajljbahbhdaaGreatV15
import Derived.Test.YtcgajljbahbhdaaGreatV16
namespace Go.Proofs.YtcgajljbahbhdaaGreat
set_option linter.unusedVariables false
set_option linter.unusedSimpArgs false
open Go.RowKit
set_option maxRecDepth 100000
theorem ints_jat {l : List Int} {j : Nat} {z : Int} (h : l[j]? = some z) : (ints l)[j * 1]? = some (.int .i64 z) := by
 unfold ints
 rw [Nat.mul_one, List.getElem?_map, h]
 rfl
theorem l_ints {w : World} {F : List Piece} {A C : Piece} {xa ya : Option Addr} {xc yc n : Nat} {l : List Int} (hn : l.length = n) (hb : n ≤ 1000000) (hA : Reader A 1 xa n (ints l)) (hB : Reader C 1 ya n (ints l)) (H : SL w (A :: C :: F)) : Calls Tryz.prog 15 #[.slice xa n xc, .slice ya n yc] w fun o w' => o = .returned (.bool true) ∧ SL w' (A :: C :: F) := by
 refine calls_den (args := [_, _]) Tryz.func15 rfl (Nat.le_of_ble_eq_true (by kernel_rfl)) (by kernel_rfl) ?_
 refine ⟨?_⟩
 refine ⟨?_⟩
 refine ⟨?_⟩
 refine den.loop (ι := Nat) [(4, 5), (8, 26)] (by kernel_rfl) (fun j => [(8, .int .i64 ↑j)]) (fun j w => j ≤ n ∧ SL w (A :: C :: F)) (fun j => n - j) 0 ⟨rfl, trivial⟩ ⟨Nat.zero_le _, H⟩ ?_
 rintro j s w ⟨hc, H⟩
 have hob := Nat.lt_or_ge j n
 rcases hob with hj | hj
 ·skip
  have hob : ∃ z, l[j]? = some z := ⟨_, List.getElem?_eq_getElem (by omega)⟩
  obtain ⟨z, hz⟩ := hob
  have hob := H.addrR 0 rfl hA (by omega)
  obtain ⟨xb, xo, rfl⟩ := hob
  have hob := H.addrR 1 rfl hB (by omega)
  obtain ⟨yb, yo, rfl⟩ := hob
  refine ⟨?_⟩
  refine BB.yes (decide_eq_true (by omega)) ?_
  refine Cn.yes ?_
  refine ⟨?_⟩
  refine ⟨?_⟩
  refine ⟨?_⟩
  refine Drw.of [(0, true), (1, true), (2, true), (3, true), (4, true), (5, true), (6, true), (7, true), (8, true), (9, true), (10, true), (11, true), (12, true), (13, true), (14, true)] (by kernel_rfl) mixed (fun w => SL w _) H.drew ?_
  replace H := H.drew
  refine BB.no (decide_eq_false (by omega)) ?_
  refine Ix.at j 1 (by kernel_rfl) (rfl) (hj) ?_
  refine LdC.R 0 rfl hA (by omega) (q := j * 1) rfl (v := .int .i64 z) (ints_jat hz) ?_
  refine Ix.at j 1 (by kernel_rfl) (rfl) (hj) ?_
  refine LdC.R 1 rfl hB (by omega) (q := j * 1) rfl (v := .int .i64 z) (ints_jat hz) ?_
  refine BB.no (bne_self_eq_false _) ?_
  refine Cn.no ?_
  refine ⟨?_⟩
  refine IW.by (wrap_id (n := ↑j + 1) (by omega) (by omega)) ?_
  exact ⟨j + 1, ⟨rfl, trivial⟩, ⟨(by omega : j + 1 ≤ n), H⟩, (show n - (j + 1) < n - j by omega)⟩
 ·skip
  have hob : j = n := by omega
  obtain rfl := hob
  refine ⟨?_⟩
  refine BB.no (decide_eq_false (by omega)) ?_
  refine Cn.no ?_
  refine ⟨?_⟩
  refine BB.yes (beq_self_eq_true _) ?_
  refine ret1 (fn := Tryz.f15) (.bool true) rfl (by rfl) ?_
  exact ⟨rfl, H⟩
theorem insV_at {c : Nat} {T : List Ev} {j : Nat} {x : Ev} (h : T[j]? = some x) : insV c (T.take (j + 1)) = insV c (T.take j) ++ (if inE c x = true then [x.value] else []) := by
 rw [List.take_add_one, h, Option.toList_some, insV_snoc]
theorem outsV_at {c : Nat} {T : List Ev} {j : Nat} {x : Ev} (h : T[j]? = some x) : outsV c (T.take (j + 1)) = outsV c (T.take j) ++ (if outE c x = true then [x.value] else []) := by
 rw [List.take_add_one, h, Option.toList_some, outsV_snoc]
theorem rd_head {A : Piece} {a : Option Addr} {n k : Nat} {Y Z : List Int} (h : Reader A 1 a n (ints Y)) (hk : k ≤ n) (hz : Y.take k = Z) : Reader A 1 a k (ints Z) := by
 rw [← hz, ← ints_take]
 exact h.take hk
theorem p_runV {w : World} {F : List Piece} {A : Piece} {pa la da : Option Addr} {pc lc dc : Nat} {t m : Int} {X : List ProgX} {pl dr : List Int} (hX : 0 < X.length → ∃ b off, pa = some ⟨b, off, none⟩ ∧ ScrA A b off X) (hL : Reader A 1 la pl.length (ints pl)) (hD : Reader A 1 da dr.length (ints dr)) (H : SL w (A :: F)) : Calls Tryz.prog 12 #[.agg #[.int .i64 t, .int .i64 m, .slice pa X.length pc, .slice la pl.length lc, .slice da dr.length dc]] w fun o w' => ∃ (T : List Ev) (ka : Option Addr) (kc : Nat) (v : Int), o = .returned (.tuple #[.slice ka T.length kc, .int .i64 v]) ∧ T.length ≤ 1000000 ∧ (∀ c : Nat, (outsV c T).length ≤ (insV c T).length ∧ (insV c T).take (outsV c T).length = outsV c T) ∧ SL w' (Slc 36 8 (.slice ka T.length kc) T.length (T.flatMap Ev.cells) :: A :: F) := by
 by_cases hck : checkE ⟨t, m, progsM X, pl, dr⟩ = 0
 ·refine (p_run hX hL hD hck H).mono ?_
  rintro o w' ⟨ka, kc, rfl, H⟩
  have hr := checkE_right hck
  have hn1 : 1 ≤ X.length := by have := hr.n1; simpa [progsM] using this
  exact ⟨_, ka, kc, _, rfl, run_len hck, fun c => outs_ins hr.ok (np := X.length) (by unfold progsM; rw [List.length_map]) hn1 _ c, H⟩
 ·refine (p_run_no hX hL hD hck H).mono ?_
  rintro o w' ⟨rfl, H⟩
  exact ⟨[], none, 0, _, rfl, Nat.zero_le _, fun c => ⟨Nat.le_refl _, rfl⟩, SL.slcNil _ _ H⟩
set_option maxHeartbeats 4000000 in
theorem l_values {w : World} {F : List Piece} {A : Piece} {pa la da : Option Addr} {pc lc dc : Nat} {t m : Int} {X : List ProgX} {pl dr : List Int} (hX : 0 < X.length → ∃ b off, pa = some ⟨b, off, none⟩ ∧ ScrA A b off X) (hL : Reader A 1 la pl.length (ints pl)) (hD : Reader A 1 da dr.length (ints dr)) (H : SL w (A :: F)) : Calls Tryz.prog 4 #[.agg #[.int .i64 t, .int .i64 m, .slice pa X.length pc, .slice la pl.length lc, .slice da dr.length dc]] w fun o w' => o = .returned (.bool true) ∧ SL w' (A :: F) := by
 refine calls_den (args := [_]) Tryz.func4 rfl (Nat.le_of_ble_eq_true (by kernel_rfl)) (by kernel_rfl) ?_
 refine ⟨?_⟩
 refine Nw.as #[.int .i64 t, .int .i64 m, .slice pa X.length pc, .slice la pl.length lc, .slice da dr.length dc] 25 rfl H fun b1 w H => ?_
 refine ⟨?_⟩
 refine H.ldi 0 rfl (v := .int .i64 t) rfl ?_
 refine H.ldi 0 rfl (v := .int .i64 m) rfl ?_
 refine H.ldi 0 rfl (v := .slice pa X.length pc) rfl ?_
 refine H.ldi 0 rfl (v := .slice la pl.length lc) rfl ?_
 refine H.ldi 0 rfl (v := .slice da dr.length dc) rfl ?_
 have h1 := H.pick [1, 0] 2 (by decide)
 simp only [pk, nth, pkA, pkB, pkC, pkD, pkE, pkF] at h1
 refine Cl.by (by kernel_rfl) (l_large hX hL hD h1) ?_
 rintro _ w ⟨bl, rfl, H⟩
 refine ⟨_, rfl, ?_⟩
 replace H := H.pick [1, 0] 2 (by decide)
 simp only [pk, nth, pkA, pkB, pkC, pkD, pkE, pkF] at H
 refine BB.k ?_
 cases bl
 ·skip
  refine Cn.no ?_
  refine ⟨?_⟩
  refine H.ldi 0 rfl (v := .int .i64 t) rfl ?_
  refine H.ldi 0 rfl (v := .int .i64 m) rfl ?_
  refine H.ldi 0 rfl (v := .slice pa X.length pc) rfl ?_
  refine H.ldi 0 rfl (v := .slice la pl.length lc) rfl ?_
  refine H.ldi 0 rfl (v := .slice da dr.length dc) rfl ?_
  have h1 := H.pick [1, 0] 2 (by decide)
  simp only [pk, nth, pkA, pkB, pkC, pkD, pkE, pkF] at h1
  refine Cl.by (by kernel_rfl) (p_runV hX hL hD h1) ?_
  rintro _ w ⟨T, ka, kc, ver, rfl, hTl, hV, H⟩
  refine ⟨_, rfl, ?_⟩
  replace H := H.pick [0, 2, 1] 3 (by decide)
  simp only [pk, nth, pkA, pkB, pkC, pkD, pkE, pkF] at H
  refine ⟨?_⟩
  refine ⟨?_⟩
  refine den.loop (ι := Nat) [(2, 2), (5, 7), (9, 9), (18, 89)] (by kernel_rfl) (fun c => [(5, .int .i64 ↑c)]) (fun c w => c ≤ 200 ∧ SL w (Slc 36 8 (.slice ka T.length kc) T.length (T.flatMap Ev.cells) :: A :: F)) (fun c => 200 - c) 0 ⟨rfl, trivial⟩ ⟨Nat.zero_le _, (H.pick [0, 2] 3 (by decide))⟩ ?_
  rintro c s w ⟨hc, H⟩
  have hob := Nat.lt_or_ge c 200
  rcases hob with hcl | hcl
  ·skip
   refine ⟨?_⟩
   refine BB.yes (decide_eq_true (by omega)) ?_
   refine Cn.yes ?_
   refine ⟨?_⟩
   refine ⟨?_⟩
   refine ⟨?_⟩
   refine ⟨?_⟩
   refine ⟨?_⟩
   refine den.loop (ι := Nat × List Int × List Int × Nat × Nat × Option Addr × Nat × Option Addr × Nat) [(6, 7), (9, 9), (24, 75)] (by kernel_rfl) (fun (j, Yi, Yo, ni, no, ia, ic, oa, oc) => [(24, .int .i64 ↑j), (6, .slice ia ni ic), (7, .slice oa no oc)]) (fun (j, Yi, Yo, ni, no, ia, ic, oa, oc) w => (j ≤ T.length ∧ insV (c : Int) (T.take j) = Yi ∧ outsV (c : Int) (T.take j) = Yo ∧ Yi.length = ni ∧ Yo.length = no ∧ ni ≤ j ∧ no ≤ j) ∧ SL w (Slc 3 1 (.slice ia ni ic) ni (ints Yi) :: Slc 3 1 (.slice oa no oc) no (ints Yo) :: Slc 36 8 (.slice ka T.length kc) T.length (T.flatMap Ev.cells) :: A :: F)) (fun (j, Yi, Yo, ni, no, ia, ic, oa, oc) => T.length - j) (0, [], [], 0, 0, none, 0, none, 0) ⟨rfl, rfl, rfl, trivial⟩ ⟨⟨Nat.zero_le _, rfl, rfl, rfl, rfl, Nat.le_refl _, Nat.le_refl _⟩, (SL.slcNil 3 1 (SL.slcNil 3 1 (H)))⟩ ?_
   rintro ⟨j, Yi, Yo, ni, no, ia, ic, oa, oc⟩ s w ⟨hd, H⟩
   obtain ⟨hj, hYi, hYo, hni, hno, hil, hol⟩ := hd
   have hob := Nat.lt_or_ge j T.length
   rcases hob with hjl | hjl
   ·skip
    have hob : ∃ x, T[j]? = some x := ⟨_, List.getElem?_eq_getElem hjl⟩
    obtain ⟨⟨xkind, xg, xchan, xcase_, xvalue, xmate, xsend, xok⟩, hx⟩ := hob
    have hob := SL.slcAddr H.up2 (by omega)
    obtain ⟨kb, rfl⟩ := hob
    refine ⟨?_⟩
    refine BB.yes (decide_eq_true (by omega)) ?_
    refine Cn.yes ?_
    refine ⟨?_⟩
    refine ⟨?_⟩
    refine Ix.at0 j 8 (by kernel_rfl) (rfl) (hjl) ?_
    refine H.ldS 2 rfl (v := .int .i64 xkind) ((ev_cell hx 0 (by decide)).trans rfl) ?_
    refine H.ldS 2 rfl (v := .int .i64 xg) ((ev_cell hx 1 (by decide)).trans rfl) ?_
    refine H.ldS 2 rfl (v := .int .i64 xchan) ((ev_cell hx 2 (by decide)).trans rfl) ?_
    refine H.ldS 2 rfl (v := .int .i64 xcase_) ((ev_cell hx 3 (by decide)).trans rfl) ?_
    refine H.ldS 2 rfl (v := .int .i64 xvalue) ((ev_cell hx 4 (by decide)).trans rfl) ?_
    refine H.ldS 2 rfl (v := .int .i64 xmate) ((ev_cell hx 5 (by decide)).trans rfl) ?_
    refine H.ldS 2 rfl (v := .bool xsend) ((ev_cell hx 6 (by decide)).trans rfl) ?_
    refine H.ldS 2 rfl (v := .bool xok) ((ev_cell hx 7 (by decide)).trans rfl) ?_
    refine Nw.as #[.int .i64 0, .int .i64 0, .int .i64 0, .int .i64 0, .int .i64 0, .int .i64 0, .bool false, .bool false] 36 rfl H fun b9 w H => ?_
    refine H.st0 (cs' := #[.int .i64 xkind, .int .i64 0, .int .i64 0, .int .i64 0, .int .i64 0, .int .i64 0, .bool false, .bool false]) rfl rfl rfl fun w H => ?_
    refine H.st0 (cs' := #[.int .i64 xkind, .int .i64 xg, .int .i64 0, .int .i64 0, .int .i64 0, .int .i64 0, .bool false, .bool false]) rfl rfl rfl fun w H => ?_
    refine H.st0 (cs' := #[.int .i64 xkind, .int .i64 xg, .int .i64 xchan, .int .i64 0, .int .i64 0, .int .i64 0, .bool false, .bool false]) rfl rfl rfl fun w H => ?_
    refine H.st0 (cs' := #[.int .i64 xkind, .int .i64 xg, .int .i64 xchan, .int .i64 xcase_, .int .i64 0, .int .i64 0, .bool false, .bool false]) rfl rfl rfl fun w H => ?_
    refine H.st0 (cs' := #[.int .i64 xkind, .int .i64 xg, .int .i64 xchan, .int .i64 xcase_, .int .i64 xvalue, .int .i64 0, .bool false, .bool false]) rfl rfl rfl fun w H => ?_
    refine H.st0 (cs' := #[.int .i64 xkind, .int .i64 xg, .int .i64 xchan, .int .i64 xcase_, .int .i64 xvalue, .int .i64 xmate, .bool false, .bool false]) rfl rfl rfl fun w H => ?_
    refine H.st0 (cs' := #[.int .i64 xkind, .int .i64 xg, .int .i64 xchan, .int .i64 xcase_, .int .i64 xvalue, .int .i64 xmate, .bool xsend, .bool false]) rfl rfl rfl fun w H => ?_
    refine H.st0 (cs' := #[.int .i64 xkind, .int .i64 xg, .int .i64 xchan, .int .i64 xcase_, .int .i64 xvalue, .int .i64 xmate, .bool xsend, .bool xok]) rfl rfl rfl fun w H => ?_
    refine ⟨?_⟩
    refine H.ldi 0 rfl (v := .int .i64 xchan) rfl ?_
    refine BB.vr fun q1 e1 => ?_
    cases q1
    ·skip
     have h1 := bne_eq_false_iff_eq.1 e1
     subst h1
     refine Cn.no ?_
     refine ⟨?_⟩
     refine H.ldi 0 rfl (v := .int .i64 xkind) rfl ?_
     refine BB.vr fun q2 e2 => ?_
     cases q2
     ·skip
      have h2 := beq_eq_false_iff_ne.1 e2
      refine H.ldi 0 rfl (v := .int .i64 xkind) rfl ?_
      refine BB.vr fun q3 e3 => ?_
      cases q3
      ·skip
       have h3 := beq_eq_false_iff_ne.1 e3
       refine Cn.no ?_
       refine ⟨?_⟩
       refine H.ldi 0 rfl (v := .int .i64 xkind) rfl ?_
       refine BB.vr fun q4 e4 => ?_
       cases q4
       ·skip
        have h4 := beq_eq_false_iff_ne.1 e4
        refine H.ldi 0 rfl (v := .int .i64 xkind) rfl ?_
        refine BB.no (beq_eq_false_iff_ne.2 h3) ?_
        refine Cn.no ?_
        refine ⟨?_⟩
        refine IW.by (wrap_id (n := ↑j + 1) (by omega) (by omega)) ?_
        have q := H.pick [1, 2, 3, 4] 5 (by decide)
        simp only [pk, nth, pkA, pkB, pkC, pkD, pkE, pkF] at q
        have hsi := insV_at (c := c) hx
        have hso := outsV_at (c := c) hx
        rw [hYi] at hsi
        rw [hYo] at hso
        have hri : insV (c : Int) (T.take (j + 1)) = Yi := by rw [hsi]; simp [inE, *]
        have hro : outsV (c : Int) (T.take (j + 1)) = Yo := by rw [hso]; simp [outE, *]
        exact ⟨(j + 1, Yi, Yo, ni, no, ia, ic, oa, oc), ⟨rfl, rfl, rfl, trivial⟩, ⟨⟨by omega, hri, hro, by simp [hni], by simp [hno], by omega, by omega⟩, q⟩, (show T.length - (j + 1) < T.length - j by omega)⟩
       ·skip
        have h4 := eq_of_beq e4
        subst h4
        refine H.ldi 0 rfl (v := .bool xok) rfl ?_
        refine BB.k ?_
        cases xok
        ·skip
         refine H.ldi 0 rfl (v := .int .i64 4) rfl ?_
         refine BB.no rfl ?_
         refine Cn.no ?_
         refine ⟨?_⟩
         refine IW.by (wrap_id (n := ↑j + 1) (by omega) (by omega)) ?_
         have q := H.pick [1, 2, 3, 4] 5 (by decide)
         simp only [pk, nth, pkA, pkB, pkC, pkD, pkE, pkF] at q
         have hsi := insV_at (c := c) hx
         have hso := outsV_at (c := c) hx
         rw [hYi] at hsi
         rw [hYo] at hso
         have hri : insV (c : Int) (T.take (j + 1)) = Yi := by rw [hsi]; simp [inE, *]
         have hro : outsV (c : Int) (T.take (j + 1)) = Yo := by rw [hso]; simp [outE, *]
         exact ⟨(j + 1, Yi, Yo, ni, no, ia, ic, oa, oc), ⟨rfl, rfl, rfl, trivial⟩, ⟨⟨by omega, hri, hro, by simp [hni], by simp [hno], by omega, by omega⟩, q⟩, (show T.length - (j + 1) < T.length - j by omega)⟩
        ·skip
         refine Cn.yes ?_
         refine ⟨?_⟩
         refine H.ldi 0 rfl (v := .int .i64 xvalue) rfl ?_
         refine Mn.new (fun b => .slice (some ⟨b, 0, none⟩) 1 1) #[.int .i64 xvalue] 3 (by kernel_rfl) H fun b73 w H => ?_
         refine SL.appS H.up3 (.tmp 70) (.tmp 73) 23 (.int .i64 0) 8 (by rfl) (by kernel_rfl) (by kernel_rfl) (by rfl) (by decide) (by rfl) (some ⟨b73, 0, none⟩) 1 1 [.int .i64 xvalue] (by rfl) (H.rdRow 0 rfl (by rfl) (by decide)) (by rfl) (by omega) (by decide) (by decide) fun g5 c5 w H => ?_
         refine ⟨?_⟩
         refine IW.by (wrap_id (n := ↑j + 1) (by omega) (by omega)) ?_
         have q := H.pick [3, 0, 4, 5] 6 (by decide)
         simp only [pk, nth, pkA, pkB, pkC, pkD, pkE, pkF] at q
         simp only [ints_snoc] at q
         have hsi := insV_at (c := c) hx
         have hso := outsV_at (c := c) hx
         rw [hYi] at hsi
         rw [hYo] at hso
         have hri : insV (c : Int) (T.take (j + 1)) = Yi := by rw [hsi]; simp [inE, *]
         have hro : outsV (c : Int) (T.take (j + 1)) = (Yo ++ [xvalue]) := by rw [hso]; simp [outE, *]
         exact ⟨(j + 1, Yi, (Yo ++ [xvalue]), ni, no + 1, ia, ic, (some ⟨g5, 0, none⟩), c5), ⟨rfl, rfl, rfl, trivial⟩, ⟨⟨by omega, hri, hro, by simp [hni], by simp [hno], by omega, by omega⟩, q⟩, (show T.length - (j + 1) < T.length - j by omega)⟩
      ·skip
       have h3 := eq_of_beq e3
       subst h3
       refine H.ldi 0 rfl (v := .bool xsend) rfl ?_
       refine BB.k ?_
       cases xsend
       ·skip
        refine Cn.no ?_
        refine ⟨?_⟩
        refine H.ldi 0 rfl (v := .int .i64 7) rfl ?_
        refine BB.no rfl ?_
        refine H.ldi 0 rfl (v := .int .i64 7) rfl ?_
        refine BB.yes rfl ?_
        refine H.ldi 0 rfl (v := .bool false) rfl ?_
        refine BB.no rfl ?_
        refine BB.yes rfl ?_
        refine H.ldi 0 rfl (v := .bool xok) rfl ?_
        refine BB.k ?_
        cases xok
        ·skip
         refine Cn.no ?_
         refine ⟨?_⟩
         refine IW.by (wrap_id (n := ↑j + 1) (by omega) (by omega)) ?_
         have q := H.pick [1, 2, 3, 4] 5 (by decide)
         simp only [pk, nth, pkA, pkB, pkC, pkD, pkE, pkF] at q
         have hsi := insV_at (c := c) hx
         have hso := outsV_at (c := c) hx
         rw [hYi] at hsi
         rw [hYo] at hso
         have hri : insV (c : Int) (T.take (j + 1)) = Yi := by rw [hsi]; simp [inE, *]
         have hro : outsV (c : Int) (T.take (j + 1)) = Yo := by rw [hso]; simp [outE, *]
         exact ⟨(j + 1, Yi, Yo, ni, no, ia, ic, oa, oc), ⟨rfl, rfl, rfl, trivial⟩, ⟨⟨by omega, hri, hro, by simp [hni], by simp [hno], by omega, by omega⟩, q⟩, (show T.length - (j + 1) < T.length - j by omega)⟩
        ·skip
         refine Cn.yes ?_
         refine ⟨?_⟩
         refine H.ldi 0 rfl (v := .int .i64 xvalue) rfl ?_
         refine Mn.new (fun b => .slice (some ⟨b, 0, none⟩) 1 1) #[.int .i64 xvalue] 3 (by kernel_rfl) H fun b73 w H => ?_
         refine SL.appS H.up3 (.tmp 70) (.tmp 73) 23 (.int .i64 0) 8 (by rfl) (by kernel_rfl) (by kernel_rfl) (by rfl) (by decide) (by rfl) (some ⟨b73, 0, none⟩) 1 1 [.int .i64 xvalue] (by rfl) (H.rdRow 0 rfl (by rfl) (by decide)) (by rfl) (by omega) (by decide) (by decide) fun g6 c6 w H => ?_
         refine ⟨?_⟩
         refine IW.by (wrap_id (n := ↑j + 1) (by omega) (by omega)) ?_
         have q := H.pick [3, 0, 4, 5] 6 (by decide)
         simp only [pk, nth, pkA, pkB, pkC, pkD, pkE, pkF] at q
         simp only [ints_snoc] at q
         have hsi := insV_at (c := c) hx
         have hso := outsV_at (c := c) hx
         rw [hYi] at hsi
         rw [hYo] at hso
         have hri : insV (c : Int) (T.take (j + 1)) = Yi := by rw [hsi]; simp [inE, *]
         have hro : outsV (c : Int) (T.take (j + 1)) = (Yo ++ [xvalue]) := by rw [hso]; simp [outE, *]
         exact ⟨(j + 1, Yi, (Yo ++ [xvalue]), ni, no + 1, ia, ic, (some ⟨g6, 0, none⟩), c6), ⟨rfl, rfl, rfl, trivial⟩, ⟨⟨by omega, hri, hro, by simp [hni], by simp [hno], by omega, by omega⟩, q⟩, (show T.length - (j + 1) < T.length - j by omega)⟩
       ·skip
        refine Cn.yes ?_
        refine ⟨?_⟩
        refine H.ldi 0 rfl (v := .int .i64 xvalue) rfl ?_
        refine Mn.new (fun b => .slice (some ⟨b, 0, none⟩) 1 1) #[.int .i64 xvalue] 3 (by kernel_rfl) H fun b47 w H => ?_
        refine SL.appS H.up2 (.tmp 44) (.tmp 47) 23 (.int .i64 0) 8 (by rfl) (by kernel_rfl) (by kernel_rfl) (by rfl) (by decide) (by rfl) (some ⟨b47, 0, none⟩) 1 1 [.int .i64 xvalue] (by rfl) (H.rdRow 0 rfl (by rfl) (by decide)) (by rfl) (by omega) (by decide) (by decide) fun g7 c7 w H => ?_
        refine ⟨?_⟩
        refine H.ldi 2 rfl (v := .int .i64 7) rfl ?_
        refine BB.no rfl ?_
        refine H.ldi 2 rfl (v := .int .i64 7) rfl ?_
        refine BB.yes rfl ?_
        refine H.ldi 2 rfl (v := .bool true) rfl ?_
        refine BB.yes rfl ?_
        refine BB.no rfl ?_
        refine Cn.no ?_
        refine ⟨?_⟩
        refine IW.by (wrap_id (n := ↑j + 1) (by omega) (by omega)) ?_
        have q := H.pick [0, 3, 4, 5] 6 (by decide)
        simp only [pk, nth, pkA, pkB, pkC, pkD, pkE, pkF] at q
        simp only [ints_snoc] at q
        have hsi := insV_at (c := c) hx
        have hso := outsV_at (c := c) hx
        rw [hYi] at hsi
        rw [hYo] at hso
        have hri : insV (c : Int) (T.take (j + 1)) = (Yi ++ [xvalue]) := by rw [hsi]; simp [inE, *]
        have hro : outsV (c : Int) (T.take (j + 1)) = Yo := by rw [hso]; simp [outE, *]
        exact ⟨(j + 1, (Yi ++ [xvalue]), Yo, ni + 1, no, (some ⟨g7, 0, none⟩), c7, oa, oc), ⟨rfl, rfl, rfl, trivial⟩, ⟨⟨by omega, hri, hro, by simp [hni], by simp [hno], by omega, by omega⟩, q⟩, (show T.length - (j + 1) < T.length - j by omega)⟩
     ·skip
      have h2 := eq_of_beq e2
      subst h2
      refine Cn.yes ?_
      refine ⟨?_⟩
      refine H.ldi 0 rfl (v := .int .i64 xvalue) rfl ?_
      refine Mn.new (fun b => .slice (some ⟨b, 0, none⟩) 1 1) #[.int .i64 xvalue] 3 (by kernel_rfl) H fun b47 w H => ?_
      refine SL.appS H.up2 (.tmp 44) (.tmp 47) 23 (.int .i64 0) 8 (by rfl) (by kernel_rfl) (by kernel_rfl) (by rfl) (by decide) (by rfl) (some ⟨b47, 0, none⟩) 1 1 [.int .i64 xvalue] (by rfl) (H.rdRow 0 rfl (by rfl) (by decide)) (by rfl) (by omega) (by decide) (by decide) fun g8 c8 w H => ?_
      refine ⟨?_⟩
      refine H.ldi 2 rfl (v := .int .i64 3) rfl ?_
      refine BB.no rfl ?_
      refine H.ldi 2 rfl (v := .int .i64 3) rfl ?_
      refine BB.no rfl ?_
      refine Cn.no ?_
      refine ⟨?_⟩
      refine IW.by (wrap_id (n := ↑j + 1) (by omega) (by omega)) ?_
      have q := H.pick [0, 3, 4, 5] 6 (by decide)
      simp only [pk, nth, pkA, pkB, pkC, pkD, pkE, pkF] at q
      simp only [ints_snoc] at q
      have hsi := insV_at (c := c) hx
      have hso := outsV_at (c := c) hx
      rw [hYi] at hsi
      rw [hYo] at hso
      have hri : insV (c : Int) (T.take (j + 1)) = (Yi ++ [xvalue]) := by rw [hsi]; simp [inE, *]
      have hro : outsV (c : Int) (T.take (j + 1)) = Yo := by rw [hso]; simp [outE, *]
      exact ⟨(j + 1, (Yi ++ [xvalue]), Yo, ni + 1, no, (some ⟨g8, 0, none⟩), c8, oa, oc), ⟨rfl, rfl, rfl, trivial⟩, ⟨⟨by omega, hri, hro, by simp [hni], by simp [hno], by omega, by omega⟩, q⟩, (show T.length - (j + 1) < T.length - j by omega)⟩
    ·skip
     have h1 := bne_iff_ne.1 e1
     refine Cn.yes ?_
     refine ⟨?_⟩
     refine IW.by (wrap_id (n := ↑j + 1) (by omega) (by omega)) ?_
     have q := H.pick [1, 2, 3, 4] 5 (by decide)
     simp only [pk, nth, pkA, pkB, pkC, pkD, pkE, pkF] at q
     have hsi := insV_at (c := c) hx
     have hso := outsV_at (c := c) hx
     rw [hYi] at hsi
     rw [hYo] at hso
     have hri : insV (c : Int) (T.take (j + 1)) = Yi := by rw [hsi]; simp [inE, *]
     have hro : outsV (c : Int) (T.take (j + 1)) = Yo := by rw [hso]; simp [outE, *]
     exact ⟨(j + 1, Yi, Yo, ni, no, ia, ic, oa, oc), ⟨rfl, rfl, rfl, trivial⟩, ⟨⟨by omega, hri, hro, by simp [hni], by simp [hno], by omega, by omega⟩, q⟩, (show T.length - (j + 1) < T.length - j by omega)⟩
   ·skip
    have hob : j = T.length := by omega
    obtain rfl := hob
    rw [List.take_length] at hYi hYo
    have hpre := hV c
    rw [hYi, hYo, hni, hno] at hpre
    have hic := SL.slcLe H
    refine ⟨?_⟩
    refine BB.no (decide_eq_false (by omega)) ?_
    refine Cn.no ?_
    refine ⟨?_⟩
    refine BB.no (decide_eq_false (by omega)) ?_
    refine Mn.head (te := 3) (sz := 1) (c := ic) (.tmp 83) (.tmp 85) 23 (by rfl) (by kernel_rfl) (by kernel_rfl) no (by omega) (by rfl) (by rfl) ?_
    have h1 := H.pick [1, 0, 2, 3] 4 (by decide)
    simp only [pk, nth, pkA, pkB, pkC, pkD, pkE, pkF] at h1
    refine Cl.sl (by kernel_rfl) (l_ints hno (by omega) Reader.slc (rd_head Reader.slc hpre.1 hpre.2) h1) fun w H => ?_
    replace H := H.pick [1, 0, 2, 3] 4 (by decide)
    simp only [pk, nth, pkA, pkB, pkC, pkD, pkE, pkF] at H
    refine BB.yes rfl ?_
    refine BB.no rfl ?_
    refine Cn.no ?_
    refine ⟨?_⟩
    refine IW.by (wrap_id (n := ↑c + 1) (by omega) (by omega)) ?_
    exact ⟨c + 1, ⟨rfl, trivial⟩, ⟨(by omega : c + 1 ≤ 200), H.pick [2, 3] 4 (by decide)⟩, (show 200 - (c + 1) < 200 - c by omega)⟩
  ·skip
   have hob : c = 200 := by omega
   obtain rfl := hob
   refine ⟨?_⟩
   refine BB.no (decide_eq_false (by decide)) ?_
   refine Cn.no ?_
   refine ⟨?_⟩
   refine Cl.sl (by kernel_rfl) (l_hands H) fun w H => ?_
   refine BB.yes rfl ?_
   refine ret1 (fn := Tryz.f4) (.bool true) rfl (by rfl) ?_
   exact ⟨rfl, H.pick [1] 2 (by decide)⟩
 ·skip
  refine Cn.yes ?_
  refine ⟨?_⟩
  refine Cl.sl (by kernel_rfl) (l_hands H) fun w H => ?_
  refine BB.yes rfl ?_
  refine ret1 (fn := Tryz.f4) (.bool true) rfl (by rfl) ?_
  exact ⟨rfl, H.pick [1] 2 (by decide)⟩
theorem loomValues_walk {w : World} {v : Value} {s : ScrX} (y : ScrIn w v s) : Calls Tryz.prog 4 #[v] w fun e w' => e = .returned (.bool true) ∧ Frm Nil w w' := by
 have hv := y.val
 subst hv
 refine (l_values (F := []) (fun h => Old.scr y.progs h) (Old.rd y.plan) (Old.rd y.draws) (SL.start w)).mono ?_
 rintro e w' ⟨rfl, H⟩
 exact ⟨rfl, H.old⟩
end Go.Proofs.YtcgajljbahbhdaaGreat
