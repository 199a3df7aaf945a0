/- Gauge: the reference. -/
import Derived.Test.YtoejhelhgfipkaaDoorSxR
import Derived.Test.YtoejhelhgfipkaaDoorGaugeV
namespace Go.Proofs.YtoejhelhgfipkaaDoor
set_option linter.unusedVariables false
set_option linter.unusedSimpArgs false
open Go.RowKit
set_option maxRecDepth 100000
theorem r_serves {w : World} {F : List Piece} (H : SL w F) (e : Ev) : Calls Tryd.prog 24 #[e.agg] w fun o w' => o = .returned (.bool (servesF e)) ∧ SL w' F := by
  obtain ⟨kind, g, chan, case_, value, mate, send, ok⟩ := e
  refine calls_den (args := [_]) Tryd.func24 rfl (Nat.le_of_ble_eq_true (by kernel_rfl)) (by kernel_rfl) ?_
  refine ⟨?_⟩
  refine Nw.as #[.int .i64 kind, .int .i64 g, .int .i64 chan, .int .i64 case_, .int .i64 value, .int .i64 mate, .bool send, .bool ok] 39 rfl H fun b1 w H => ?_
  refine ⟨?_⟩
  refine H.ldi 0 rfl (v := .int .i64 kind) rfl ?_
  refine BB.vr fun q1 e1 => ?_
  cases q1
  · skip
    have h1 := beq_eq_false_iff_ne.1 e1
    refine H.ldi 0 rfl (v := .int .i64 kind) rfl ?_
    refine BB.vr fun q2 e2 => ?_
    cases q2
    · skip
      have h2 := beq_eq_false_iff_ne.1 e2
      refine ret1 (fn := Tryd.f24) (.bool false) rfl (by rfl) ?_
      exact ⟨by simp [servesF, *], H.tl⟩
    · skip
      have h2 := eq_of_beq e2
      subst h2
      refine H.ldi 0 rfl (v := .int .i64 mate) rfl ?_
      refine BB.k ?_
      refine ret1 (fn := Tryd.f24) (.bool (decide (mate ≥ 0))) rfl (by rfl) ?_
      exact ⟨by simp [servesF, *], H.tl⟩
  · skip
    have h1 := eq_of_beq e1
    subst h1
    refine H.ldi 0 rfl (v := .int .i64 mate) rfl ?_
    refine BB.k ?_
    refine ret1 (fn := Tryd.f24) (.bool (decide (mate ≥ 0))) rfl (by rfl) ?_
    exact ⟨by simp [servesF, *], H.tl⟩

theorem crewR_of {l : List Ev} {i : Nat} {e : Ev} {s : GoM} (hd : l.getD i evz = e) (hs : goR l e.g i = s) : crewR l i = (if s.over = true then false else if e.kind = 13 then true else decide (e.g < s.there) && !s.exited && (e.kind == 12 || s.waits == (e.kind == 7)) && (e.kind != 1 || e.mate == s.there)) := by
  subst hd hs
  rfl
theorem madeR_of {l : List Ev} {i n : Nat} {e : Ev} (hd : l.getD i evz = e) (hs : makesR l i = n) : madeR l i = (if e.kind = 2 then e.chan == n else decide (e.chan < n)) := by
  subst hd hs
  rfl
theorem goR_step {l : List Ev} {g : Int} {k T : Nat} {Wt X O : Bool} {x : Ev} (hx : l.getD k evz = x) (h : goR l g k = ⟨T, Wt, X, O⟩) : goR l g (k + 1) = ⟨if x.kind = 1 then T + 1 else T, if x.g ≠ g ∨ x.kind = 13 then Wt else if x.kind = 7 then false else if x.kind = 6 then true else Wt, if x.g ≠ g ∨ x.kind = 13 then X else (X || x.kind == 11), O || x.kind == 12⟩ := by
  rw [goR, h, hx]
theorem goR_over {l : List Ev} {g : Int} {k : Nat} (h : (goR l g k).over = true) : ∀ i, k ≤ i → (goR l g i).over = true := by
  intro i
  induction i with
  | zero => intro hi; obtain rfl : k = 0 := by omega
            exact h
  | succ i ih =>
    intro hi
    by_cases hk : k = i + 1
    · rw [← hk]; exact h
    · rw [goR]
      simp [ih (by omega)]
theorem goR_there {l : List Ev} {g : Int} : ∀ k, (goR l g k).there ≤ k + 1
  | 0 => Nat.le_refl _
  | k + 1 => by
    have := goR_there (l := l) (g := g) k
    rw [goR]
    dsimp only
    split <;> omega

set_option maxHeartbeats 2000000 in
theorem r_crew {w : World} {F : List Piece} {A : Piece} {lb lo lc i : Nat} {l : List Ev} (hA : EvA A lb lo l) (hlc : l.length ≤ lc) (hi : i < l.length) (hll : l.length ≤ 2000) (H : SL w (A :: F)) :
    Calls Tryd.prog 19 #[(.slice (some ⟨lb, lo, none⟩) l.length lc), .int .i64 (i : Int)] w fun o w' => o = .returned (.bool (crewR l i)) ∧ SL w' (A :: F) := by
  obtain ⟨e0, e1⟩ : ∃ e, l[i]'hi = e := ⟨_, rfl⟩
  have he : l[i]? = some e0 := by rw [← e1]; exact List.getElem?_eq_getElem _
  clear e1
  obtain ⟨kind, g, chan, case_, value, mate, send, ok⟩ := e0
  have hd : l.getD i evz = ⟨kind, g, chan, case_, value, mate, send, ok⟩ := by rw [List.getD_eq_getElem?_getD, he]; rfl
  refine calls_den (args := [_, _]) Tryd.func19 rfl (Nat.le_of_ble_eq_true (by kernel_rfl)) (by kernel_rfl) ?_
  refine ⟨?_⟩
  refine ⟨?_⟩
  refine Ix.at i 8 (by kernel_rfl) (rfl) (hi) ?_
  refine H.ldE 0 rfl hA i 0 he (v := .int .i64 kind) rfl ?_
  refine H.ldE 0 rfl hA i 1 he (v := .int .i64 g) rfl ?_
  refine H.ldE 0 rfl hA i 2 he (v := .int .i64 chan) rfl ?_
  refine H.ldE 0 rfl hA i 3 he (v := .int .i64 case_) rfl ?_
  refine H.ldE 0 rfl hA i 4 he (v := .int .i64 value) rfl ?_
  refine H.ldE 0 rfl hA i 5 he (v := .int .i64 mate) rfl ?_
  refine H.ldE 0 rfl hA i 6 he (v := .bool send) rfl ?_
  refine H.ldE 0 rfl hA i 7 he (v := .bool ok) rfl ?_
  refine Nw.as #[.int .i64 0, .int .i64 0, .int .i64 0, .int .i64 0, .int .i64 0, .int .i64 0, .bool false, .bool false] 39 rfl H fun b5 w H => ?_
  refine H.st0 (cs' := #[.int .i64 kind, .int .i64 0, .int .i64 0, .int .i64 0, .int .i64 0, .int .i64 0, .bool false, .bool false]) rfl rfl rfl fun w H => ?_
  refine H.st0 (cs' := #[.int .i64 kind, .int .i64 g, .int .i64 0, .int .i64 0, .int .i64 0, .int .i64 0, .bool false, .bool false]) rfl rfl rfl fun w H => ?_
  refine H.st0 (cs' := #[.int .i64 kind, .int .i64 g, .int .i64 chan, .int .i64 0, .int .i64 0, .int .i64 0, .bool false, .bool false]) rfl rfl rfl fun w H => ?_
  refine H.st0 (cs' := #[.int .i64 kind, .int .i64 g, .int .i64 chan, .int .i64 case_, .int .i64 0, .int .i64 0, .bool false, .bool false]) rfl rfl rfl fun w H => ?_
  refine H.st0 (cs' := #[.int .i64 kind, .int .i64 g, .int .i64 chan, .int .i64 case_, .int .i64 value, .int .i64 0, .bool false, .bool false]) rfl rfl rfl fun w H => ?_
  refine H.st0 (cs' := #[.int .i64 kind, .int .i64 g, .int .i64 chan, .int .i64 case_, .int .i64 value, .int .i64 mate, .bool false, .bool false]) rfl rfl rfl fun w H => ?_
  refine H.st0 (cs' := #[.int .i64 kind, .int .i64 g, .int .i64 chan, .int .i64 case_, .int .i64 value, .int .i64 mate, .bool send, .bool false]) rfl rfl rfl fun w H => ?_
  refine H.st0 (cs' := #[.int .i64 kind, .int .i64 g, .int .i64 chan, .int .i64 case_, .int .i64 value, .int .i64 mate, .bool send, .bool ok]) rfl rfl rfl fun w H => ?_
  refine ⟨?_⟩
  refine ⟨?_⟩
  refine ⟨?_⟩
  refine ⟨?_⟩
  refine Mn.head (te := 39) (sz := 8) (c := lc) (.tmp 15) (.tmp 16) 22 (by rfl) (by kernel_rfl) (by kernel_rfl) i (by omega) (by rfl) (by rfl) ?_
  refine ⟨?_⟩
  refine den.loop (ι := Nat × Nat × Bool × Bool) [(4, 4), (6, 8), (10, 10), (19, 50)] (by kernel_rfl) (fun (k, T, Wt, X) => [(6, .int .i64 ↑T), (7, .bool Wt), (8, .bool X), (19, .int .i64 ↑k)]) (fun (k, T, Wt, X) w => (k ≤ i ∧ goR l g k = ⟨T, Wt, X, false⟩) ∧ SL w (row b5 #[.int .i64 kind, .int .i64 g, .int .i64 chan, .int .i64 case_, .int .i64 value, .int .i64 mate, .bool send, .bool ok] 39 :: A :: F)) (fun (k, T, Wt, X) => i - k) (0, 1, false, false) ⟨rfl, rfl, rfl, rfl, trivial⟩ ⟨⟨Nat.zero_le _, rfl⟩, H⟩ ?_
  rintro ⟨k, T, Wt, X⟩ s w ⟨hc, H⟩
  obtain ⟨hk', hgo⟩ := hc
  have hTb := goR_there (l := l) (g := g) k
  rw [hgo] at hTb
  dsimp only at hTb
  by_cases hk : k < i
  · skip
    obtain ⟨ex0, ex1⟩ : ∃ e, l[k]'(by omega) = e := ⟨_, rfl⟩
    have hx : l[k]? = some ex0 := by rw [← ex1]; exact List.getElem?_eq_getElem _
    clear ex1
    obtain ⟨xkind, xg, xchan, xcase_, xvalue, xmate, xsend, xok⟩ := ex0
    have hdx : l.getD k evz = ⟨xkind, xg, xchan, xcase_, xvalue, xmate, xsend, xok⟩ := by rw [List.getD_eq_getElem?_getD, hx]; rfl
    have hst := goR_step hdx hgo
    refine ⟨?_⟩
    refine BB.yes (decide_eq_true (by omega)) ?_
    refine Cn.yes ?_
    refine ⟨?_⟩
    refine ⟨?_⟩
    refine Ix.at k 8 (by kernel_rfl) (rfl) (hk) ?_
    refine H.ldE 1 rfl hA k 0 hx (v := .int .i64 xkind) rfl ?_
    refine H.ldE 1 rfl hA k 1 hx (v := .int .i64 xg) rfl ?_
    refine H.ldE 1 rfl hA k 2 hx (v := .int .i64 xchan) rfl ?_
    refine H.ldE 1 rfl hA k 3 hx (v := .int .i64 xcase_) rfl ?_
    refine H.ldE 1 rfl hA k 4 hx (v := .int .i64 xvalue) rfl ?_
    refine H.ldE 1 rfl hA k 5 hx (v := .int .i64 xmate) rfl ?_
    refine H.ldE 1 rfl hA k 6 hx (v := .bool xsend) rfl ?_
    refine H.ldE 1 rfl hA k 7 hx (v := .bool xok) rfl ?_
    refine Nw.as #[.int .i64 0, .int .i64 0, .int .i64 0, .int .i64 0, .int .i64 0, .int .i64 0, .bool false, .bool false] 39 rfl H fun b10 w H => ?_
    refine H.st0 (cs' := #[.int .i64 xkind, .int .i64 0, .int .i64 0, .int .i64 0, .int .i64 0, .int .i64 0, .bool false, .bool false]) rfl rfl rfl fun w H => ?_
    refine H.st0 (cs' := #[.int .i64 xkind, .int .i64 xg, .int .i64 0, .int .i64 0, .int .i64 0, .int .i64 0, .bool false, .bool false]) rfl rfl rfl fun w H => ?_
    refine H.st0 (cs' := #[.int .i64 xkind, .int .i64 xg, .int .i64 xchan, .int .i64 0, .int .i64 0, .int .i64 0, .bool false, .bool false]) rfl rfl rfl fun w H => ?_
    refine H.st0 (cs' := #[.int .i64 xkind, .int .i64 xg, .int .i64 xchan, .int .i64 xcase_, .int .i64 0, .int .i64 0, .bool false, .bool false]) rfl rfl rfl fun w H => ?_
    refine H.st0 (cs' := #[.int .i64 xkind, .int .i64 xg, .int .i64 xchan, .int .i64 xcase_, .int .i64 xvalue, .int .i64 0, .bool false, .bool false]) rfl rfl rfl fun w H => ?_
    refine H.st0 (cs' := #[.int .i64 xkind, .int .i64 xg, .int .i64 xchan, .int .i64 xcase_, .int .i64 xvalue, .int .i64 xmate, .bool false, .bool false]) rfl rfl rfl fun w H => ?_
    refine H.st0 (cs' := #[.int .i64 xkind, .int .i64 xg, .int .i64 xchan, .int .i64 xcase_, .int .i64 xvalue, .int .i64 xmate, .bool xsend, .bool false]) rfl rfl rfl fun w H => ?_
    refine H.st0 (cs' := #[.int .i64 xkind, .int .i64 xg, .int .i64 xchan, .int .i64 xcase_, .int .i64 xvalue, .int .i64 xmate, .bool xsend, .bool xok]) rfl rfl rfl fun w H => ?_
    refine ⟨?_⟩
    refine H.ldi 0 rfl (v := .int .i64 xkind) rfl ?_
    refine BB.vr fun q1 e1 => ?_
    cases q1
    · skip
      have h1 := beq_eq_false_iff_ne.1 e1
      refine Cn.no ?_
      refine ⟨?_⟩
      refine H.ldi 0 rfl (v := .int .i64 xkind) rfl ?_
      refine BB.vr fun q2 e2 => ?_
      cases q2
      · skip
        have h2 := beq_eq_false_iff_ne.1 e2
        refine Cn.no ?_
        refine ⟨?_⟩
        refine H.ldi 0 rfl (v := .int .i64 xg) rfl ?_
        refine H.ldi 1 rfl (v := .int .i64 g) rfl ?_
        refine BB.vr fun q3 e3 => ?_
        cases q3
        · skip
          have h3 := bne_eq_false_iff_eq.1 e3
          subst h3
          refine H.ldi 0 rfl (v := .int .i64 xkind) rfl ?_
          refine BB.vr fun q4 e4 => ?_
          cases q4
          · skip
            have h4 := beq_eq_false_iff_ne.1 e4
            refine Cn.no ?_
            refine ⟨?_⟩
            refine H.ldi 0 rfl (v := .int .i64 xkind) rfl ?_
            refine BB.vr fun q5 e5 => ?_
            cases q5
            · skip
              have h5 := beq_eq_false_iff_ne.1 e5
              refine Cn.no ?_
              refine ⟨?_⟩
              refine H.ldi 0 rfl (v := .int .i64 xkind) rfl ?_
              refine BB.vr fun q6 e6 => ?_
              cases q6
              · skip
                have h6 := beq_eq_false_iff_ne.1 e6
                refine Cn.no ?_
                refine ⟨?_⟩
                refine H.ldi 0 rfl (v := .int .i64 xkind) rfl ?_
                refine BB.vr fun q7 e7 => ?_
                cases q7
                · skip
                  have h7 := beq_eq_false_iff_ne.1 e7
                  refine Cn.no ?_
                  refine ⟨?_⟩
                  refine IW.by (wrap_id (n := ↑k + 1) (by omega) (by omega)) ?_
                  exact ⟨(k + 1, T, Wt, X), ⟨rfl, rfl, rfl, rfl, trivial⟩, ⟨⟨by omega, by rw [hst]; simp [*]⟩, H.tl⟩, (show i - (k + 1) < i - k by omega)⟩
                · skip
                  have h7 := eq_of_beq e7
                  subst h7
                  refine Cn.yes ?_
                  refine ⟨?_⟩
                  refine ⟨?_⟩
                  refine IW.by (wrap_id (n := ↑k + 1) (by omega) (by omega)) ?_
                  exact ⟨(k + 1, T, Wt, true), ⟨rfl, rfl, rfl, rfl, trivial⟩, ⟨⟨by omega, by rw [hst]; simp [*]⟩, H.tl⟩, (show i - (k + 1) < i - k by omega)⟩
              · skip
                have h6 := eq_of_beq e6
                subst h6
                refine Cn.yes ?_
                refine ⟨?_⟩
                refine ⟨?_⟩
                refine H.ldi 0 rfl (v := .int .i64 7) rfl ?_
                refine BB.no rfl ?_
                refine Cn.no ?_
                refine ⟨?_⟩
                refine IW.by (wrap_id (n := ↑k + 1) (by omega) (by omega)) ?_
                exact ⟨(k + 1, T, false, X), ⟨rfl, rfl, rfl, rfl, trivial⟩, ⟨⟨by omega, by rw [hst]; simp [*]⟩, H.tl⟩, (show i - (k + 1) < i - k by omega)⟩
            · skip
              have h5 := eq_of_beq e5
              subst h5
              refine Cn.yes ?_
              refine ⟨?_⟩
              refine ⟨?_⟩
              refine H.ldi 0 rfl (v := .int .i64 6) rfl ?_
              refine BB.no rfl ?_
              refine Cn.no ?_
              refine ⟨?_⟩
              refine H.ldi 0 rfl (v := .int .i64 6) rfl ?_
              refine BB.no rfl ?_
              refine Cn.no ?_
              refine ⟨?_⟩
              refine IW.by (wrap_id (n := ↑k + 1) (by omega) (by omega)) ?_
              exact ⟨(k + 1, T, true, X), ⟨rfl, rfl, rfl, rfl, trivial⟩, ⟨⟨by omega, by rw [hst]; simp [*]⟩, H.tl⟩, (show i - (k + 1) < i - k by omega)⟩
          · skip
            have h4 := eq_of_beq e4
            subst h4
            refine Cn.yes ?_
            refine ⟨?_⟩
            refine IW.by (wrap_id (n := ↑k + 1) (by omega) (by omega)) ?_
            exact ⟨(k + 1, T, Wt, X), ⟨rfl, rfl, rfl, rfl, trivial⟩, ⟨⟨by omega, by rw [hst]; simp [*]⟩, H.tl⟩, (show i - (k + 1) < i - k by omega)⟩
        · skip
          have h3 := bne_iff_ne.1 e3
          refine Cn.yes ?_
          refine ⟨?_⟩
          refine IW.by (wrap_id (n := ↑k + 1) (by omega) (by omega)) ?_
          exact ⟨(k + 1, T, Wt, X), ⟨rfl, rfl, rfl, rfl, trivial⟩, ⟨⟨by omega, by rw [hst]; simp [*]⟩, H.tl⟩, (show i - (k + 1) < i - k by omega)⟩
      · skip
        have h2 := eq_of_beq e2
        subst h2
        refine Cn.yes ?_
        refine ⟨?_⟩
        refine IW.by (wrap_id (n := ↑T + 1) (by omega) (by omega)) ?_
        refine ⟨?_⟩
        refine H.ldi 0 rfl (v := .int .i64 xg) rfl ?_
        refine H.ldi 1 rfl (v := .int .i64 g) rfl ?_
        refine BB.vr fun q8 e8 => ?_
        cases q8
        · skip
          have h8 := bne_eq_false_iff_eq.1 e8
          subst h8
          refine H.ldi 0 rfl (v := .int .i64 1) rfl ?_
          refine BB.no rfl ?_
          refine Cn.no ?_
          refine ⟨?_⟩
          refine H.ldi 0 rfl (v := .int .i64 1) rfl ?_
          refine BB.no rfl ?_
          refine Cn.no ?_
          refine ⟨?_⟩
          refine H.ldi 0 rfl (v := .int .i64 1) rfl ?_
          refine BB.no rfl ?_
          refine Cn.no ?_
          refine ⟨?_⟩
          refine H.ldi 0 rfl (v := .int .i64 1) rfl ?_
          refine BB.no rfl ?_
          refine Cn.no ?_
          refine ⟨?_⟩
          refine IW.by (wrap_id (n := ↑k + 1) (by omega) (by omega)) ?_
          exact ⟨(k + 1, T + 1, Wt, X), ⟨rfl, rfl, rfl, rfl, trivial⟩, ⟨⟨by omega, by rw [hst]; simp [*]⟩, H.tl⟩, (show i - (k + 1) < i - k by omega)⟩
        · skip
          have h8 := bne_iff_ne.1 e8
          refine Cn.yes ?_
          refine ⟨?_⟩
          refine IW.by (wrap_id (n := ↑k + 1) (by omega) (by omega)) ?_
          exact ⟨(k + 1, T + 1, Wt, X), ⟨rfl, rfl, rfl, rfl, trivial⟩, ⟨⟨by omega, by rw [hst]; simp [*]⟩, H.tl⟩, (show i - (k + 1) < i - k by omega)⟩
    · skip
      have h1 := eq_of_beq e1
      subst h1
      refine Cn.yes ?_
      refine ⟨?_⟩
      refine ret1 (fn := Tryd.f19) (.bool false) rfl (by rfl) ?_
      have hov : (goR l g i).over = true := goR_over (k := k + 1) (by rw [hst]; simp [*]) i (by omega)
      have hc : crewR l i = (false) := by rw [crewR_of hd rfl, if_pos hov]
      rw [hc]
      exact ⟨rfl, H.tl.tl⟩
  · skip
    have hki : k = i := by omega
    subst k
    refine ⟨?_⟩
    refine BB.no (decide_eq_false (by omega)) ?_
    refine Cn.no ?_
    refine ⟨?_⟩
    refine H.ldi 0 rfl (v := .int .i64 kind) rfl ?_
    refine BB.vr fun q9 e9 => ?_
    cases q9
    · skip
      have h9 := beq_eq_false_iff_ne.1 e9
      refine Cn.no ?_
      refine ⟨?_⟩
      refine H.ldi 0 rfl (v := .int .i64 g) rfl ?_
      refine BB.vr fun q10 e10 => ?_
      cases q10
      · skip
        have h10 := of_decide_eq_false e10
        refine ret1 (fn := Tryd.f19) (.bool false) rfl (by rfl) ?_
        have hc : crewR l i = (false) := by rw [crewR_of hd hgo]; first | (simp [*]; done) | (cases Wt <;> simp_all; done)
        rw [hc]
        exact ⟨rfl, H.tl⟩
      · skip
        have h10 := of_decide_eq_true e10
        refine BB.vr fun q11 e11 => ?_
        cases q11
        · skip
          have h11 : X = true := by simpa using e11
          subst h11
          refine ret1 (fn := Tryd.f19) (.bool false) rfl (by rfl) ?_
          have hc : crewR l i = (false) := by rw [crewR_of hd hgo]; first | (simp [*]; done) | (cases Wt <;> simp_all; done)
          rw [hc]
          exact ⟨rfl, H.tl⟩
        · skip
          have h11 : X = false := by simpa using e11
          subst h11
          refine H.ldi 0 rfl (v := .int .i64 kind) rfl ?_
          refine BB.vr fun q12 e12 => ?_
          cases q12
          · skip
            have h12 := beq_eq_false_iff_ne.1 e12
            refine H.ldi 0 rfl (v := .int .i64 kind) rfl ?_
            refine BB.k ?_
            refine BB.vr fun q13 e13 => ?_
            cases q13
            · skip
              refine ret1 (fn := Tryd.f19) (.bool false) rfl (by rfl) ?_
              have hc : crewR l i = (false) := by rw [crewR_of hd hgo]; first | (simp [*]; done) | (cases Wt <;> simp_all; done)
              rw [hc]
              exact ⟨rfl, H.tl⟩
            · skip
              refine H.ldi 0 rfl (v := .int .i64 kind) rfl ?_
              refine BB.vr fun q14 e14 => ?_
              cases q14
              · skip
                have h14 := bne_eq_false_iff_eq.1 e14
                subst h14
                refine H.ldi 0 rfl (v := .int .i64 mate) rfl ?_
                refine BB.k ?_
                refine ret1 (fn := Tryd.f19) (.bool (mate == (↑T : Int))) rfl (by rfl) ?_
                have hc : crewR l i = (mate == (↑T : Int)) := by rw [crewR_of hd hgo]; first | (simp [*]; done) | (cases Wt <;> simp_all; done)
                rw [hc]
                exact ⟨rfl, H.tl⟩
              · skip
                have h14 := bne_iff_ne.1 e14
                refine ret1 (fn := Tryd.f19) (.bool true) rfl (by rfl) ?_
                have hc : crewR l i = (true) := by rw [crewR_of hd hgo]; first | (simp [*]; done) | (cases Wt <;> simp_all; done)
                rw [hc]
                exact ⟨rfl, H.tl⟩
          · skip
            have h12 := eq_of_beq e12
            subst h12
            refine H.ldi 0 rfl (v := .int .i64 12) rfl ?_
            refine BB.yes rfl ?_
            refine ret1 (fn := Tryd.f19) (.bool true) rfl (by rfl) ?_
            have hc : crewR l i = (true) := by rw [crewR_of hd hgo]; first | (simp [*]; done) | (cases Wt <;> simp_all; done)
            rw [hc]
            exact ⟨rfl, H.tl⟩
    · skip
      have h9 := eq_of_beq e9
      subst h9
      refine Cn.yes ?_
      refine ⟨?_⟩
      refine ret1 (fn := Tryd.f19) (.bool true) rfl (by rfl) ?_
      have hc : crewR l i = (true) := by rw [crewR_of hd hgo]; first | (simp [*]; done) | (cases Wt <;> simp_all; done)
      rw [hc]
      exact ⟨rfl, H.tl⟩

theorem makesR_le (l : List Ev) : ∀ k, makesR l k ≤ k
  | 0 => Nat.le_refl _
  | k + 1 => by
    have := makesR_le l k
    rw [makesR]
    split <;> omega

set_option maxHeartbeats 2000000 in
theorem r_made {w : World} {F : List Piece} {A : Piece} {lb lo lc i : Nat} {l : List Ev} (hA : EvA A lb lo l) (hlc : l.length ≤ lc) (hi : i < l.length) (hll : l.length ≤ 2000) (H : SL w (A :: F)) :
    Calls Tryd.prog 20 #[(.slice (some ⟨lb, lo, none⟩) l.length lc), .int .i64 (i : Int)] w fun o w' => o = .returned (.bool (madeR l i)) ∧ SL w' (A :: F) := by
  obtain ⟨e0, e1⟩ : ∃ e, l[i]'hi = e := ⟨_, rfl⟩
  have he : l[i]? = some e0 := by rw [← e1]; exact List.getElem?_eq_getElem _
  clear e1
  obtain ⟨kind, g, chan, case_, value, mate, send, ok⟩ := e0
  have hd : l.getD i evz = ⟨kind, g, chan, case_, value, mate, send, ok⟩ := by rw [List.getD_eq_getElem?_getD, he]; rfl
  refine calls_den (args := [_, _]) Tryd.func20 rfl (Nat.le_of_ble_eq_true (by kernel_rfl)) (by kernel_rfl) ?_
  refine ⟨?_⟩
  refine ⟨?_⟩
  refine ⟨?_⟩
  refine Mn.head (te := 39) (sz := 8) (c := lc) (.tmp 8) (.tmp 9) 22 (by rfl) (by kernel_rfl) (by kernel_rfl) i (by omega) (by rfl) (by rfl) ?_
  refine ⟨?_⟩
  refine den.loop (ι := Nat × Nat) [(5, 5), (7, 7), (12, 21)] (by kernel_rfl) (fun (k, T) => [(5, .int .i64 ↑T), (12, .int .i64 ↑k)]) (fun (k, T) w => (k ≤ i ∧ makesR l k = T) ∧ SL w (A :: F)) (fun (k, T) => i - k) (0, 0) ⟨rfl, rfl, trivial⟩ ⟨⟨Nat.zero_le _, rfl⟩, H⟩ ?_
  rintro ⟨k, T⟩ s w ⟨hc, H⟩
  obtain ⟨hk', hgo⟩ := hc
  have hT := makesR_le l k
  rw [hgo] at hT
  by_cases hk : k < i
  · skip
    obtain ⟨ex0, ex1⟩ : ∃ e, l[k]'(by omega) = e := ⟨_, rfl⟩
    have hx : l[k]? = some ex0 := by rw [← ex1]; exact List.getElem?_eq_getElem _
    clear ex1
    obtain ⟨xkind, xg, xchan, xcase_, xvalue, xmate, xsend, xok⟩ := ex0
    have hdx : l.getD k evz = ⟨xkind, xg, xchan, xcase_, xvalue, xmate, xsend, xok⟩ := by rw [List.getD_eq_getElem?_getD, hx]; rfl
    refine ⟨?_⟩
    refine BB.yes (decide_eq_true (by omega)) ?_
    refine Cn.yes ?_
    refine ⟨?_⟩
    refine ⟨?_⟩
    refine Ix.at k 8 (by kernel_rfl) (rfl) (hk) ?_
    refine H.ldE 0 rfl hA k 0 hx (v := .int .i64 xkind) rfl ?_
    refine H.ldE 0 rfl hA k 1 hx (v := .int .i64 xg) rfl ?_
    refine H.ldE 0 rfl hA k 2 hx (v := .int .i64 xchan) rfl ?_
    refine H.ldE 0 rfl hA k 3 hx (v := .int .i64 xcase_) rfl ?_
    refine H.ldE 0 rfl hA k 4 hx (v := .int .i64 xvalue) rfl ?_
    refine H.ldE 0 rfl hA k 5 hx (v := .int .i64 xmate) rfl ?_
    refine H.ldE 0 rfl hA k 6 hx (v := .bool xsend) rfl ?_
    refine H.ldE 0 rfl hA k 7 hx (v := .bool xok) rfl ?_
    refine Nw.as #[.int .i64 0, .int .i64 0, .int .i64 0, .int .i64 0, .int .i64 0, .int .i64 0, .bool false, .bool false] 39 rfl H fun b7 w H => ?_
    refine H.st0 (cs' := #[.int .i64 xkind, .int .i64 0, .int .i64 0, .int .i64 0, .int .i64 0, .int .i64 0, .bool false, .bool false]) rfl rfl rfl fun w H => ?_
    refine H.st0 (cs' := #[.int .i64 xkind, .int .i64 xg, .int .i64 0, .int .i64 0, .int .i64 0, .int .i64 0, .bool false, .bool false]) rfl rfl rfl fun w H => ?_
    refine H.st0 (cs' := #[.int .i64 xkind, .int .i64 xg, .int .i64 xchan, .int .i64 0, .int .i64 0, .int .i64 0, .bool false, .bool false]) rfl rfl rfl fun w H => ?_
    refine H.st0 (cs' := #[.int .i64 xkind, .int .i64 xg, .int .i64 xchan, .int .i64 xcase_, .int .i64 0, .int .i64 0, .bool false, .bool false]) rfl rfl rfl fun w H => ?_
    refine H.st0 (cs' := #[.int .i64 xkind, .int .i64 xg, .int .i64 xchan, .int .i64 xcase_, .int .i64 xvalue, .int .i64 0, .bool false, .bool false]) rfl rfl rfl fun w H => ?_
    refine H.st0 (cs' := #[.int .i64 xkind, .int .i64 xg, .int .i64 xchan, .int .i64 xcase_, .int .i64 xvalue, .int .i64 xmate, .bool false, .bool false]) rfl rfl rfl fun w H => ?_
    refine H.st0 (cs' := #[.int .i64 xkind, .int .i64 xg, .int .i64 xchan, .int .i64 xcase_, .int .i64 xvalue, .int .i64 xmate, .bool xsend, .bool false]) rfl rfl rfl fun w H => ?_
    refine H.st0 (cs' := #[.int .i64 xkind, .int .i64 xg, .int .i64 xchan, .int .i64 xcase_, .int .i64 xvalue, .int .i64 xmate, .bool xsend, .bool xok]) rfl rfl rfl fun w H => ?_
    refine ⟨?_⟩
    refine H.ldi 0 rfl (v := .int .i64 xkind) rfl ?_
    refine BB.vr fun q1 e1 => ?_
    cases q1
    · skip
      have h1 := beq_eq_false_iff_ne.1 e1
      refine Cn.no ?_
      refine ⟨?_⟩
      refine IW.by (wrap_id (n := ↑k + 1) (by omega) (by omega)) ?_
      exact ⟨(k + 1, T), ⟨rfl, rfl, trivial⟩, ⟨⟨by omega, by rw [makesR, hdx, hgo]; simp [*]⟩, H.tl⟩, (show i - (k + 1) < i - k by omega)⟩
    · skip
      have h1 := eq_of_beq e1
      subst h1
      refine Cn.yes ?_
      refine ⟨?_⟩
      refine IW.by (wrap_id (n := ↑T + 1) (by omega) (by omega)) ?_
      refine ⟨?_⟩
      refine IW.by (wrap_id (n := ↑k + 1) (by omega) (by omega)) ?_
      exact ⟨(k + 1, T + 1), ⟨rfl, rfl, trivial⟩, ⟨⟨by omega, by rw [makesR, hdx, hgo]; simp [*]⟩, H.tl⟩, (show i - (k + 1) < i - k by omega)⟩
  · skip
    have hki : k = i := by omega
    subst k
    refine ⟨?_⟩
    refine BB.no (decide_eq_false (by omega)) ?_
    refine Cn.no ?_
    refine ⟨?_⟩
    refine Ix.at i 8 (by kernel_rfl) (rfl) (hi) ?_
    refine H.ldE 0 rfl hA i 0 he (v := .int .i64 kind) rfl ?_
    refine BB.vr fun q2 e2 => ?_
    cases q2
    · skip
      have h2 := beq_eq_false_iff_ne.1 e2
      refine Cn.no ?_
      refine ⟨?_⟩
      refine Ix.at i 8 (by kernel_rfl) (rfl) (hi) ?_
      refine H.ldE 0 rfl hA i 2 he (v := .int .i64 chan) rfl ?_
      refine BB.k ?_
      refine ret1 (fn := Tryd.f20) (.bool (decide (chan < (↑T : Int)))) rfl (by rfl) ?_
      have hc : madeR l i = (decide (chan < (↑T : Int))) := by rw [madeR_of hd hgo]; simp [*]
      rw [hc]
      exact ⟨rfl, H⟩
    · skip
      have h2 := eq_of_beq e2
      subst h2
      refine Cn.yes ?_
      refine ⟨?_⟩
      refine Ix.at i 8 (by kernel_rfl) (rfl) (hi) ?_
      refine H.ldE 0 rfl hA i 2 he (v := .int .i64 chan) rfl ?_
      refine BB.k ?_
      refine ret1 (fn := Tryd.f20) (.bool (chan == (↑T : Int))) rfl (by rfl) ?_
      have hc : madeR l i = (chan == (↑T : Int)) := by rw [madeR_of hd hgo]; simp [*]
      rw [hc]
      exact ⟨rfl, H⟩

end Go.Proofs.YtoejhelhgfipkaaDoor
