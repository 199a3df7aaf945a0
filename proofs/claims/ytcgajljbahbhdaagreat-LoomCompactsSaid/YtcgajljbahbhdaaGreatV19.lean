/- Texts of the proof, several in one file: LawI. -/
import Derived.Test.YtcgajljbahbhdaaGreatV15
import Derived.Test.YtcgajljbahbhdaaGreatV18
namespace Go.Proofs.YtcgajljbahbhdaaGreat
set_option linter.unusedVariables false
set_option linter.unusedSimpArgs false
open Go.RowKit
set_option maxRecDepth 100000
section
variable {T Y : List Ev} {x : Ev} {j : Nat}
theorem filt_keep (hx : T[j]? = some x) (hY : (T.take j).filter ncE = Y) (h : ncE x = true) : (T.take (j + 1)).filter ncE = Y ++ [x] := by
 rw [List.take_add_one, hx, Option.toList_some, List.filter_append, hY]
 simp [h]
theorem filt_skip (hx : T[j]? = some x) (hY : (T.take j).filter ncE = Y) (h : ncE x = false) : (T.take (j + 1)).filter ncE = Y := by
 rw [List.take_add_one, hx, Option.toList_some, List.filter_append, hY]
 simp [h]
end
theorem Reader.all_ {L : List Piece} {P : Piece} {sz n : Nat} {a : Option Addr} {xs : List Value} (i : Nat) (hi : L[i]? = some P) (h : Reader P sz a n xs) : Reader (all L) sz a n xs := fun S w hS => by
 obtain ⟨T, _, hT⟩ := SLs.at i hS hi
 exact h T w hT
theorem ScrA.all_ {L : List Piece} {P : Piece} {b off : Nat} {X : List ProgX} (i : Nat) (hi : L[i]? = some P) (h : ScrA P b off X) : ScrA (all L) b off X where
 prog := fun S w hS => by
  obtain ⟨T, _, hT⟩ := SLs.at i hS hi
  exact h.prog T w hT
 some_ := h.some_
 op := fun S w hS => by
  obtain ⟨T, _, hT⟩ := SLs.at i hS hi
  exact h.op T w hT
 cap := h.cap
 case := fun k p hk j o ho => ⟨(h.case k p hk j o ho).1.all_ i hi, (h.case k p hk j o ho).2⟩
theorem rd_tk {A : Piece} {a : Option Addr} {n k : Nat} {xs ys : List Value} (h : Reader A 1 a n xs) (hk : k ≤ n) (hz : xs.take k = ys) : Reader A 1 a k ys := by
 have := h.take hk
 rw [Nat.mul_one, hz] at this
 exact this
theorem p_runT {w : World} {F : List Piece} {A : Piece} {pa la da : Option Addr} {pc lc dc : Nat} {t m : Int} {X : List ProgX} {pl dr : List Int} (hX : 0 < X.length → ∃ b off, pa = some ⟨b, off, none⟩ ∧ ScrA A b off X) (hL : Reader A 1 la pl.length (ints pl)) (hD : Reader A 1 da dr.length (ints dr)) (hck : checkE ⟨t, m, progsM X, pl, dr⟩ = 0) (H : SL w (A :: F)) : Calls Tryz.prog 12 #[.agg #[.int .i64 t, .int .i64 m, .slice pa X.length pc, .slice la pl.length lc, .slice da dr.length dc]] w fun o w' => ∃ (T : List Ev) (ka : Option Addr) (kc : Nat), (runL ⟨t, m, progsM X, pl, dr⟩ (pl.length + 1)).tr = T ∧ T.length ≤ 1000000 ∧ o = .returned (.tuple #[.slice ka T.length kc, .int .i64 (verL ⟨t, m, progsM X, pl, dr⟩ (runL ⟨t, m, progsM X, pl, dr⟩ (pl.length + 1)))]) ∧ SL w' (Slc 36 8 (.slice ka T.length kc) T.length (T.flatMap Ev.cells) :: A :: F) := by
 refine (p_run hX hL hD hck H).mono ?_
 rintro o w' ⟨ka, kc, rfl, H⟩
 exact ⟨_, ka, kc, rfl, run_len hck, rfl, H⟩
theorem p_runBare {w : World} {F : List Piece} {va la' da' : Option Addr} {vc lc' dc' : Nat} {t m : Int} {X Z : List ProgX} {pl dr : List Int} {zs : List Value} {T : List Ev} (hck : checkE ⟨t, m, progsM X, pl, dr⟩ = 0) (hT : (runL ⟨t, m, progsM X, pl, dr⟩ (pl.length + 1)).tr = T) (hZ : progsM Z = progsM X) (hzl : Z.length = X.length) (hgood : ∀ p ∈ Z, GoodP p) (hva : 0 < X.length → ∃ b, va = some ⟨b, 0, none⟩) (hzs : zs.take (bareM pl).length = ints (bareM pl)) (hbl : (bareM pl).length ≤ pl.length) (H : SL w (scrP va vc Z :: Slc 3 1 (.slice la' pl.length lc') pl.length zs :: Slc 3 1 (.slice da' dr.length dc') dr.length (ints dr) :: F)) :
  Calls Tryz.prog 12 #[.agg #[.int .i64 t, .int .i64 m, .slice va Z.length vc, .slice la' (bareM pl).length lc', .slice da' dr.length dc']] w fun o w' => ∃ ja jc, o = .returned (.tuple #[.slice ja (T.filter ncE).length jc, .int .i64 (verL ⟨t, m, progsM X, pl, dr⟩ (runL ⟨t, m, progsM X, pl, dr⟩ (pl.length + 1)))]) ∧ SL w' (Slc 36 8 (.slice ja (T.filter ncE).length jc) (T.filter ncE).length ((T.filter ncE).flatMap Ev.cells) :: F) := by
 have hck2 : checkE ⟨t, m, progsM X, bareM pl, dr⟩ = 0 := check_bare hck
 have H2 : SL w (all [scrP va vc Z, Slc 3 1 (.slice la' pl.length lc') pl.length zs, Slc 3 1 (.slice da' dr.length dc') dr.length (ints dr)] :: F) := SL.all.2 H
 have hb := run_bare ⟨t, m, progsM X, pl, dr⟩
 have h := p_run (X := Z) (pl := bareM pl) (dr := dr) (t := t) (m := m) (pc := vc) (lc := lc') (dc := dc') (fun h0 => by
  obtain ⟨b, hb⟩ := hva (by omega)
  exact ⟨b, 0, hb, (scrP_A hgood hb).all_ 0 rfl⟩) ((rd_tk Reader.slc hbl hzs).all_ 1 rfl) (Reader.slc.all_ 2 rfl) (by rw [hZ]; exact hck2) H2
 rw [hZ] at h
 refine h.mono ?_
 rintro o w' ⟨ka, kc, rfl, H⟩
 have e1 : (runL ⟨t, m, progsM X, bareM pl, dr⟩ ((bareM pl).length + 1)).tr = T.filter ncE := by rw [← hT]; exact hb.1.symm
 have e2 : verL ⟨t, m, progsM X, bareM pl, dr⟩ (runL ⟨t, m, progsM X, bareM pl, dr⟩ ((bareM pl).length + 1)) = verL ⟨t, m, progsM X, pl, dr⟩ (runL ⟨t, m, progsM X, pl, dr⟩ (pl.length + 1)) := hb.2.symm
 rw [e1, e2]
 rw [e1] at H
 exact ⟨ka, kc, rfl, H.up1.tl⟩
set_option maxHeartbeats 4000000 in
theorem l_compacts {w : World} {F : List Piece} {A : Piece} {pa la da : Option Addr} {pc lc dc : Nat} {t m : Int} {X : List ProgX} {pl dr : List Int} (hX : 0 < X.length → ∃ b off, pa = some ⟨b, off, none⟩ ∧ ScrA A b off X) (hL : Reader A 1 la pl.length (ints pl)) (hD : Reader A 1 da dr.length (ints dr)) (H : SL w (A :: F)) : Calls Tryz.prog 9 #[.agg #[.int .i64 t, .int .i64 m, .slice pa X.length pc, .slice la pl.length lc, .slice da dr.length dc]] w fun o w' => o = .returned (.bool true) ∧ SL w' (A :: F) := by
 by_cases hck : checkE ⟨t, m, progsM X, pl, dr⟩ = 0
 ·obtain ⟨hpl, hdl, h8, h32, h4, hbp, hbd⟩ := right_parts hck
  refine calls_den (args := [_]) Tryz.func9 rfl (Nat.le_of_ble_eq_true (by kernel_rfl)) (by kernel_rfl) ?_
  refine ⟨?_⟩
  refine Nw.as #[.int .i64 t, .int .i64 m, .slice pa X.length pc, .slice la pl.length lc, .slice da dr.length dc] 25 rfl H fun b1 w H => ?_
  refine ⟨?_⟩
  refine H.ldi 0 rfl (v := .int .i64 t) rfl ?_
  refine H.ldi 0 rfl (v := .int .i64 m) rfl ?_
  refine H.ldi 0 rfl (v := .slice pa X.length pc) rfl ?_
  refine H.ldi 0 rfl (v := .slice la pl.length lc) rfl ?_
  refine H.ldi 0 rfl (v := .slice da dr.length dc) rfl ?_
  have h1 := H.pick [1, 0] 2 (by decide)
  simp only [pk, nth, pkA, pkB, pkC, pkD, pkE, pkF] at h1
  refine Cl.by (by kernel_rfl) (l_large hX hL hD h1) ?_
  rintro _ w ⟨bl, rfl, H⟩
  refine ⟨_, rfl, ?_⟩
  replace H := H.pick [1, 0] 2 (by decide)
  simp only [pk, nth, pkA, pkB, pkC, pkD, pkE, pkF] at H
  refine BB.k ?_
  cases bl
  ·skip
   refine H.ldi 0 rfl (v := .int .i64 t) rfl ?_
   refine H.ldi 0 rfl (v := .int .i64 m) rfl ?_
   refine H.ldi 0 rfl (v := .slice pa X.length pc) rfl ?_
   refine H.ldi 0 rfl (v := .slice la pl.length lc) rfl ?_
   refine H.ldi 0 rfl (v := .slice da dr.length dc) rfl ?_
   have h1 := H.pick [1, 0] 2 (by decide)
   simp only [pk, nth, pkA, pkB, pkC, pkD, pkE, pkF] at h1
   refine Cl.sl (by kernel_rfl) (r_check05 hX hL hD h1) fun w H => ?_
   replace H := H.pick [1, 0] 2 (by decide)
   simp only [pk, nth, pkA, pkB, pkC, pkD, pkE, pkF] at H
   rw [hck]
   refine BB.no rfl ?_
   refine Cn.no ?_
   refine ⟨?_⟩
   refine H.ldi 0 rfl (v := .int .i64 t) rfl ?_
   refine H.ldi 0 rfl (v := .int .i64 m) rfl ?_
   refine H.ldi 0 rfl (v := .slice pa X.length pc) rfl ?_
   refine H.ldi 0 rfl (v := .slice la pl.length lc) rfl ?_
   refine H.ldi 0 rfl (v := .slice da dr.length dc) rfl ?_
   have h1 := H.pick [1, 0] 2 (by decide)
   simp only [pk, nth, pkA, pkB, pkC, pkD, pkE, pkF] at h1
   refine Cl.by (by kernel_rfl) (p_runT hX hL hD hck h1) ?_
   rintro _ w ⟨T, ka, kc, hT, hTl, rfl, H⟩
   refine ⟨_, rfl, ?_⟩
   replace H := H.pick [0, 2, 1] 3 (by decide)
   simp only [pk, nth, pkA, pkB, pkC, pkD, pkE, pkF] at H
   refine ⟨?_⟩
   refine H.ldi 1 rfl (v := .int .i64 t) rfl ?_
   refine H.ldi 1 rfl (v := .int .i64 m) rfl ?_
   refine H.ldi 1 rfl (v := .slice pa X.length pc) rfl ?_
   refine H.ldi 1 rfl (v := .slice la pl.length lc) rfl ?_
   refine H.ldi 1 rfl (v := .slice da dr.length dc) rfl ?_
   have h1 := H.pick [2, 0, 1] 3 (by decide)
   simp only [pk, nth, pkA, pkB, pkC, pkD, pkE, pkF] at h1
   refine Cl.by (by kernel_rfl) (p_sheetBare hX hL hD h4 h32 h8 hpl hdl h1) ?_
   rintro _ w ⟨Z, va, vc, la', lc', da', dc', zs, hZ, hzl, hgood, hva, hzs, hbl, hzn, rfl, H⟩
   refine ⟨_, rfl, ?_⟩
   replace H := H.pick [0, 1, 2, 4, 5, 3] 6 (by decide)
   simp only [pk, nth, pkA, pkB, pkC, pkD, pkE, pkF] at H
   have h1 := H
   refine Cl.by (by kernel_rfl) (p_runBare hck hT hZ hzl hgood hva hzs hbl h1) ?_
   rintro _ w ⟨ja, jc, rfl, H⟩
   refine ⟨_, rfl, ?_⟩
   refine ⟨?_⟩
   refine ⟨?_⟩
   refine ⟨?_⟩
   refine den.loop (ι := Nat × List Ev × Nat × Option Addr × Nat) [(7, 7), (9, 9), (31, 42)] (by kernel_rfl) (fun (j, Y, n, ca, cc) => [(31, .int .i64 ↑j), (7, .slice ca n cc)]) (fun (j, Y, n, ca, cc) w => (j ≤ T.length ∧ (T.take j).filter ncE = Y ∧ Y.length = n ∧ n ≤ j) ∧ SL w (Slc 36 8 (.slice ca n cc) n (Y.flatMap Ev.cells) :: Slc 36 8 (.slice ja ((T.filter ncE).length) jc) ((T.filter ncE).length) ((T.filter ncE).flatMap Ev.cells) :: Slc 36 8 (.slice ka T.length kc) T.length (T.flatMap Ev.cells) :: A :: F)) (fun (j, Y, n, ca, cc) => T.length - j) (0, [], 0, none, 0) ⟨rfl, rfl, trivial⟩ ⟨⟨Nat.zero_le _, rfl, rfl, Nat.le_refl _⟩, (SL.slcNil 36 8 (H.pick [0, 1, 3] 4 (by decide)))⟩ ?_
   rintro ⟨j, Y, n, ca, cc⟩ s w ⟨hd, H⟩
   obtain ⟨hj, hY, hn, hnl⟩ := hd
   have hob := Nat.lt_or_ge j T.length
   rcases hob with hjl | hjl
   ·skip
    have hob : ∃ x, T[j]? = some x := ⟨_, List.getElem?_eq_getElem hjl⟩
    obtain ⟨⟨xkind, xg, xchan, xcase_, xvalue, xmate, xsend, xok⟩, hx⟩ := hob
    have hob := SL.slcAddr H.up2 (by omega)
    obtain ⟨kb, rfl⟩ := hob
    refine ⟨?_⟩
    refine BB.yes (decide_eq_true (by omega)) ?_
    refine Cn.yes ?_
    refine ⟨?_⟩
    refine ⟨?_⟩
    refine Ix.at0 j 8 (by kernel_rfl) (rfl) (hjl) ?_
    refine H.ldS 2 rfl (v := .int .i64 xkind) ((ev_cell hx 0 (by decide)).trans rfl) ?_
    refine H.ldS 2 rfl (v := .int .i64 xg) ((ev_cell hx 1 (by decide)).trans rfl) ?_
    refine H.ldS 2 rfl (v := .int .i64 xchan) ((ev_cell hx 2 (by decide)).trans rfl) ?_
    refine H.ldS 2 rfl (v := .int .i64 xcase_) ((ev_cell hx 3 (by decide)).trans rfl) ?_
    refine H.ldS 2 rfl (v := .int .i64 xvalue) ((ev_cell hx 4 (by decide)).trans rfl) ?_
    refine H.ldS 2 rfl (v := .int .i64 xmate) ((ev_cell hx 5 (by decide)).trans rfl) ?_
    refine H.ldS 2 rfl (v := .bool xsend) ((ev_cell hx 6 (by decide)).trans rfl) ?_
    refine H.ldS 2 rfl (v := .bool xok) ((ev_cell hx 7 (by decide)).trans rfl) ?_
    refine Nw.as #[.int .i64 0, .int .i64 0, .int .i64 0, .int .i64 0, .int .i64 0, .int .i64 0, .bool false, .bool false] 36 rfl H fun b9 w H => ?_
    refine H.st0 (cs' := #[.int .i64 xkind, .int .i64 0, .int .i64 0, .int .i64 0, .int .i64 0, .int .i64 0, .bool false, .bool false]) rfl rfl rfl fun w H => ?_
    refine H.st0 (cs' := #[.int .i64 xkind, .int .i64 xg, .int .i64 0, .int .i64 0, .int .i64 0, .int .i64 0, .bool false, .bool false]) rfl rfl rfl fun w H => ?_
    refine H.st0 (cs' := #[.int .i64 xkind, .int .i64 xg, .int .i64 xchan, .int .i64 0, .int .i64 0, .int .i64 0, .bool false, .bool false]) rfl rfl rfl fun w H => ?_
    refine H.st0 (cs' := #[.int .i64 xkind, .int .i64 xg, .int .i64 xchan, .int .i64 xcase_, .int .i64 0, .int .i64 0, .bool false, .bool false]) rfl rfl rfl fun w H => ?_
    refine H.st0 (cs' := #[.int .i64 xkind, .int .i64 xg, .int .i64 xchan, .int .i64 xcase_, .int .i64 xvalue, .int .i64 0, .bool false, .bool false]) rfl rfl rfl fun w H => ?_
    refine H.st0 (cs' := #[.int .i64 xkind, .int .i64 xg, .int .i64 xchan, .int .i64 xcase_, .int .i64 xvalue, .int .i64 xmate, .bool false, .bool false]) rfl rfl rfl fun w H => ?_
    refine H.st0 (cs' := #[.int .i64 xkind, .int .i64 xg, .int .i64 xchan, .int .i64 xcase_, .int .i64 xvalue, .int .i64 xmate, .bool xsend, .bool false]) rfl rfl rfl fun w H => ?_
    refine H.st0 (cs' := #[.int .i64 xkind, .int .i64 xg, .int .i64 xchan, .int .i64 xcase_, .int .i64 xvalue, .int .i64 xmate, .bool xsend, .bool xok]) rfl rfl rfl fun w H => ?_
    refine ⟨?_⟩
    refine H.ldi 0 rfl (v := .int .i64 xkind) rfl ?_
    refine BB.vr fun q1 e1 => ?_
    cases q1
    ·skip
     have h1 := bne_eq_false_iff_eq.1 e1
     subst h1
     refine Cn.no ?_
     refine ⟨?_⟩
     refine IW.by (wrap_id (n := ↑j + 1) (by omega) (by omega)) ?_
     have q := H.pick [1, 2, 3, 4] 5 (by decide)
     simp only [pk, nth, pkA, pkB, pkC, pkD, pkE, pkF] at q
     have hs := filt_skip hx hY (by unfold ncE; simp [*])
     exact ⟨(j + 1, Y, n, ca, cc), ⟨rfl, rfl, trivial⟩, ⟨⟨by omega, hs, hn, by omega⟩, q⟩, (show T.length - (j + 1) < T.length - j by omega)⟩
    ·skip
     have h1 := bne_iff_ne.1 e1
     refine Cn.yes ?_
     refine ⟨?_⟩
     refine H.ldi 0 rfl (v := .int .i64 xkind) rfl ?_
     refine H.ldi 0 rfl (v := .int .i64 xg) rfl ?_
     refine H.ldi 0 rfl (v := .int .i64 xchan) rfl ?_
     refine H.ldi 0 rfl (v := .int .i64 xcase_) rfl ?_
     refine H.ldi 0 rfl (v := .int .i64 xvalue) rfl ?_
     refine H.ldi 0 rfl (v := .int .i64 xmate) rfl ?_
     refine H.ldi 0 rfl (v := .bool xsend) rfl ?_
     refine H.ldi 0 rfl (v := .bool xok) rfl ?_
     refine Mn.new (fun b => .slice (some ⟨b, 0, none⟩) 1 1) #[.int .i64 xkind, .int .i64 xg, .int .i64 xchan, .int .i64 xcase_, .int .i64 xvalue, .int .i64 xmate, .bool xsend, .bool xok] 36 (by kernel_rfl) H fun b40 w H => ?_
     refine SL.appS H.up2 (.tmp 38) (.tmp 40) 28 (.agg #[.int .i64 0, .int .i64 0, .int .i64 0, .int .i64 0, .int .i64 0, .int .i64 0, .bool false, .bool false]) 56 (by rfl) (by kernel_rfl) (by kernel_rfl) (by rfl) (by decide) (by rfl) (some ⟨b40, 0, none⟩) 1 1 [.int .i64 xkind, .int .i64 xg, .int .i64 xchan, .int .i64 xcase_, .int .i64 xvalue, .int .i64 xmate, .bool xsend, .bool xok] (by rfl) (H.rdRow 0 rfl (by rfl) (by decide)) (by rfl) (by omega) (by decide) (by decide) fun g2 c2 w H => ?_
     refine ⟨?_⟩
     refine IW.by (wrap_id (n := ↑j + 1) (by omega) (by omega)) ?_
     have q := H.pick [0, 3, 4, 5] 6 (by decide)
     simp only [pk, nth, pkA, pkB, pkC, pkD, pkE, pkF] at q
     rw [show Y.flatMap Ev.cells ++ [.int .i64 xkind, .int .i64 xg, .int .i64 xchan, .int .i64 xcase_, .int .i64 xvalue, .int .i64 xmate, .bool xsend, .bool xok] = (Y ++ [(⟨xkind, xg, xchan, xcase_, xvalue, xmate, xsend, xok⟩ : Ev)]).flatMap Ev.cells by rw [List.flatMap_append]; rfl] at q
     have hs := filt_keep (x := ⟨xkind, xg, xchan, xcase_, xvalue, xmate, xsend, xok⟩) hx hY (by unfold ncE; simp [*])
     exact ⟨(j + 1, Y ++ [⟨xkind, xg, xchan, xcase_, xvalue, xmate, xsend, xok⟩], n + 1, (some ⟨g2, 0, none⟩), c2), ⟨rfl, rfl, trivial⟩, ⟨⟨by omega, hs, by simp [hn], by omega⟩, q⟩, (show T.length - (j + 1) < T.length - j by omega)⟩
   ·skip
    have hob : j = T.length := by omega
    obtain rfl := hob
    rw [List.take_length] at hY
    subst hY
    subst hn
    refine ⟨?_⟩
    refine BB.no (decide_eq_false (by omega)) ?_
    refine Cn.no ?_
    refine ⟨?_⟩
    have h1 := H
    refine Cl.sl (by kernel_rfl) (l_events (by omega) Reader.slc Reader.slc h1) fun w H => ?_
    refine BB.yes rfl ?_
    refine BB.yes (beq_self_eq_true _) ?_
    refine Cl.sl (by kernel_rfl) (l_hands H) fun w H => ?_
    refine BB.yes rfl ?_
    refine ret1 (fn := Tryz.f9) (.bool true) rfl (by rfl) ?_
    exact ⟨rfl, H.pick [3] 4 (by decide)⟩
  ·skip
   refine Cn.yes ?_
   refine ⟨?_⟩
   refine Cl.sl (by kernel_rfl) (l_hands H) fun w H => ?_
   refine BB.yes rfl ?_
   refine ret1 (fn := Tryz.f9) (.bool true) rfl (by rfl) ?_
   exact ⟨rfl, H.pick [1] 2 (by decide)⟩
 ·skip
  refine calls_den (args := [_]) Tryz.func9 rfl (Nat.le_of_ble_eq_true (by kernel_rfl)) (by kernel_rfl) ?_
  refine ⟨?_⟩
  refine Nw.as #[.int .i64 t, .int .i64 m, .slice pa X.length pc, .slice la pl.length lc, .slice da dr.length dc] 25 rfl H fun b1 w H => ?_
  refine ⟨?_⟩
  refine H.ldi 0 rfl (v := .int .i64 t) rfl ?_
  refine H.ldi 0 rfl (v := .int .i64 m) rfl ?_
  refine H.ldi 0 rfl (v := .slice pa X.length pc) rfl ?_
  refine H.ldi 0 rfl (v := .slice la pl.length lc) rfl ?_
  refine H.ldi 0 rfl (v := .slice da dr.length dc) rfl ?_
  have h1 := H.pick [1, 0] 2 (by decide)
  simp only [pk, nth, pkA, pkB, pkC, pkD, pkE, pkF] at h1
  refine Cl.by (by kernel_rfl) (l_large hX hL hD h1) ?_
  rintro _ w ⟨bl, rfl, H⟩
  refine ⟨_, rfl, ?_⟩
  replace H := H.pick [1, 0] 2 (by decide)
  simp only [pk, nth, pkA, pkB, pkC, pkD, pkE, pkF] at H
  refine BB.k ?_
  cases bl
  ·skip
   refine H.ldi 0 rfl (v := .int .i64 t) rfl ?_
   refine H.ldi 0 rfl (v := .int .i64 m) rfl ?_
   refine H.ldi 0 rfl (v := .slice pa X.length pc) rfl ?_
   refine H.ldi 0 rfl (v := .slice la pl.length lc) rfl ?_
   refine H.ldi 0 rfl (v := .slice da dr.length dc) rfl ?_
   have h1 := H.pick [1, 0] 2 (by decide)
   simp only [pk, nth, pkA, pkB, pkC, pkD, pkE, pkF] at h1
   refine Cl.sl (by kernel_rfl) (r_check05 hX hL hD h1) fun w H => ?_
   replace H := H.pick [1, 0] 2 (by decide)
   simp only [pk, nth, pkA, pkB, pkC, pkD, pkE, pkF] at H
   refine BB.yes (bne_iff_ne.2 hck) ?_
   refine Cn.yes ?_
   refine ⟨?_⟩
   refine Cl.sl (by kernel_rfl) (l_hands H) fun w H => ?_
   refine BB.yes rfl ?_
   refine ret1 (fn := Tryz.f9) (.bool true) rfl (by rfl) ?_
   exact ⟨rfl, H.pick [1] 2 (by decide)⟩
  ·skip
   refine Cn.yes ?_
   refine ⟨?_⟩
   refine Cl.sl (by kernel_rfl) (l_hands H) fun w H => ?_
   refine BB.yes rfl ?_
   refine ret1 (fn := Tryz.f9) (.bool true) rfl (by rfl) ?_
   exact ⟨rfl, H.pick [1] 2 (by decide)⟩
theorem loomCompacts_walk {w : World} {v : Value} {s : ScrX} (y : ScrIn w v s) : Calls Tryz.prog 9 #[v] w fun e w' => e = .returned (.bool true) ∧ Frm Nil w w' := by
 have hv := y.val
 subst hv
 refine (l_compacts (F := []) (fun h => Old.scr y.progs h) (Old.rd y.plan) (Old.rd y.draws) (SL.start w)).mono ?_
 rintro e w' ⟨rfl, H⟩
 exact ⟨rfl, H.old⟩
end Go.Proofs.YtcgajljbahbhdaaGreat
