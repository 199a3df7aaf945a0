/- Texts of the proof, several in one file: LawO. -/
import Derived.Test.YtchkaaeoffmjnaaGreatDoorG20
import Derived.Test.YtchkaaeoffmjnaaGreatDoorG23
namespace Go.Proofs.YtchkaaeoffmjnaaGreatDoor
set_option linter.unusedVariables false
set_option linter.unusedSimpArgs false
open Go.RowKit
set_option maxRecDepth 100000
section
variable {k i : Int} {f : Ev → Int} {l : List Ev} {e : Ev}
theorem gre_take {n : Nat} {m : Int} (h : l[n]? = some e) : greL k f m (l.take (n + 1)) = greS k f (greL k f m (l.take n)) e := by
 rw [List.take_add_one, h, Option.toList_some, gre_snoc]
theorem gre_ge (k : Int) (f : Ev → Int) (m : Int) (l : List Ev) : m ≤ greL k f m l := by
 unfold greL
 induction l generalizing m with
 | nil => exact Int.le_refl _
 | cons e l ih =>
  rw [List.foldl_cons]
  refine Int.le_trans ?_ (ih _)
  unfold greS
  (repeat' split) <;> omega
end
theorem g_mate {w : World} {F : List Piece} (e : Ev) (H : SL w F) : Calls Tryz.prog 63 #[e.agg] w fun o w' => o = .returned (.int .i64 e.mate) ∧ SL w' F := by
 obtain ⟨xkind, xg, xchan, xcase_, xvalue, xmate, xsend, xok⟩ := e
 refine calls_den (args := [_]) Tryz.func63 rfl (Nat.le_of_ble_eq_true (by kernel_rfl)) (by kernel_rfl) ?_
 refine ⟨?_⟩
 refine Nw.as #[.int .i64 xkind, .int .i64 xg, .int .i64 xchan, .int .i64 xcase_, .int .i64 xvalue, .int .i64 xmate, .bool xsend, .bool xok] 53 rfl H fun b1 w H => ?_
 refine ⟨?_⟩
 refine H.ldi 0 rfl (v := .int .i64 xmate) rfl ?_
 refine ret1 (fn := Tryz.f63) (.int .i64 xmate) rfl (by rfl) ?_
 exact ⟨rfl, H.pick [] 1 (by decide)⟩
theorem g_chan {w : World} {F : List Piece} (e : Ev) (H : SL w F) : Calls Tryz.prog 64 #[e.agg] w fun o w' => o = .returned (.int .i64 e.chan) ∧ SL w' F := by
 obtain ⟨xkind, xg, xchan, xcase_, xvalue, xmate, xsend, xok⟩ := e
 refine calls_den (args := [_]) Tryz.func64 rfl (Nat.le_of_ble_eq_true (by kernel_rfl)) (by kernel_rfl) ?_
 refine ⟨?_⟩
 refine Nw.as #[.int .i64 xkind, .int .i64 xg, .int .i64 xchan, .int .i64 xcase_, .int .i64 xvalue, .int .i64 xmate, .bool xsend, .bool xok] 53 rfl H fun b1 w H => ?_
 refine ⟨?_⟩
 refine H.ldi 0 rfl (v := .int .i64 xchan) rfl ?_
 refine ret1 (fn := Tryz.f64) (.int .i64 xchan) rfl (by rfl) ?_
 exact ⟨rfl, H.pick [] 1 (by decide)⟩
theorem g_most_mate {w : World} {F : List Piece} {A : Piece} {la : Option Addr} {lc : Nat} {l : List Ev} (hR : Reader A 8 la l.length (l.flatMap Ev.cells)) (hll : l.length ≤ 2000) (hw : ∀ e ∈ l, EvWf e) (H : SL w (A :: F)) :
  Calls Tryz.prog 62 #[.slice la l.length lc, .int .i64 1, .int .i64 1, .func (.func 63) #[] #[]] w fun o w' => o = .returned (.int .i64 (greL 1 (·.mate) 1 l)) ∧ SL w' (A :: F) := by
 refine calls_den (args := [_, _, _, _]) Tryz.func62 rfl (Nat.le_of_ble_eq_true (by kernel_rfl)) (by kernel_rfl) ?_
 refine ⟨?_⟩
 refine ⟨?_⟩
 refine ⟨?_⟩
 refine den.loop (ι := Nat × Int) [(2, 2), (10, 10), (13, 33)] (by kernel_rfl) (fun (i, g) => [(2, .int .i64 g), (13, .int .i64 ↑i)]) (fun (i, g) w => (i ≤ l.length ∧ g = (greL 1 (·.mate) 1 (l.take i))) ∧ SL w (A :: F)) (fun (i, g) => l.length - i) (0, 1) ⟨rfl, rfl, trivial⟩ ⟨⟨Nat.zero_le _, rfl⟩, H⟩ ?_
 rintro ⟨i, g⟩ s w ⟨hd, H⟩
 obtain ⟨hil, hg⟩ := hd
 have hob := Nat.lt_or_ge i l.length
 rcases hob with hi | hi
 ·skip
  have hob : ∃ x, l[i]? = some x := ⟨_, List.getElem?_eq_getElem hi⟩
  obtain ⟨⟨xkind, xg, xchan, xcase_, xvalue, xmate, xsend, xok⟩, hxx⟩ := hob
  have hxw := hw _ (List.mem_of_getElem? hxx)
  have hxm := hxw xmate (by simp)
  have hxc := hxw xchan (by simp)
  clear hxw
  have hob := H.addrR 0 rfl hR (by omega)
  obtain ⟨xb, xo, rfl⟩ := hob
  refine ⟨?_⟩
  refine BB.yes (decide_eq_true (by omega)) ?_
  refine Cn.yes ?_
  refine ⟨?_⟩
  refine ⟨?_⟩
  refine Ix.at i 8 (by kernel_rfl) (rfl) (hi) ?_
  refine H.ldR 0 rfl hR (by omega) (q := i * 8 + 0) rfl (v := .int .i64 xkind) ((ev_cell hxx 0 (by decide)).trans rfl) ?_
  refine H.ldR 0 rfl hR (by omega) (q := i * 8 + 1) rfl (v := .int .i64 xg) ((ev_cell hxx 1 (by decide)).trans rfl) ?_
  refine H.ldR 0 rfl hR (by omega) (q := i * 8 + 2) rfl (v := .int .i64 xchan) ((ev_cell hxx 2 (by decide)).trans rfl) ?_
  refine H.ldR 0 rfl hR (by omega) (q := i * 8 + 3) rfl (v := .int .i64 xcase_) ((ev_cell hxx 3 (by decide)).trans rfl) ?_
  refine H.ldR 0 rfl hR (by omega) (q := i * 8 + 4) rfl (v := .int .i64 xvalue) ((ev_cell hxx 4 (by decide)).trans rfl) ?_
  refine H.ldR 0 rfl hR (by omega) (q := i * 8 + 5) rfl (v := .int .i64 xmate) ((ev_cell hxx 5 (by decide)).trans rfl) ?_
  refine H.ldR 0 rfl hR (by omega) (q := i * 8 + 6) rfl (v := .bool xsend) ((ev_cell hxx 6 (by decide)).trans rfl) ?_
  refine H.ldR 0 rfl hR (by omega) (q := i * 8 + 7) rfl (v := .bool xok) ((ev_cell hxx 7 (by decide)).trans rfl) ?_
  refine Nw.as #[.int .i64 0, .int .i64 0, .int .i64 0, .int .i64 0, .int .i64 0, .int .i64 0, .bool false, .bool false] 53 rfl H fun b10 w H => ?_
  refine H.st0 (cs' := #[.int .i64 xkind, .int .i64 0, .int .i64 0, .int .i64 0, .int .i64 0, .int .i64 0, .bool false, .bool false]) rfl rfl rfl fun w H => ?_
  refine H.st0 (cs' := #[.int .i64 xkind, .int .i64 xg, .int .i64 0, .int .i64 0, .int .i64 0, .int .i64 0, .bool false, .bool false]) rfl rfl rfl fun w H => ?_
  refine H.st0 (cs' := #[.int .i64 xkind, .int .i64 xg, .int .i64 xchan, .int .i64 0, .int .i64 0, .int .i64 0, .bool false, .bool false]) rfl rfl rfl fun w H => ?_
  refine H.st0 (cs' := #[.int .i64 xkind, .int .i64 xg, .int .i64 xchan, .int .i64 xcase_, .int .i64 0, .int .i64 0, .bool false, .bool false]) rfl rfl rfl fun w H => ?_
  refine H.st0 (cs' := #[.int .i64 xkind, .int .i64 xg, .int .i64 xchan, .int .i64 xcase_, .int .i64 xvalue, .int .i64 0, .bool false, .bool false]) rfl rfl rfl fun w H => ?_
  refine H.st0 (cs' := #[.int .i64 xkind, .int .i64 xg, .int .i64 xchan, .int .i64 xcase_, .int .i64 xvalue, .int .i64 xmate, .bool false, .bool false]) rfl rfl rfl fun w H => ?_
  refine H.st0 (cs' := #[.int .i64 xkind, .int .i64 xg, .int .i64 xchan, .int .i64 xcase_, .int .i64 xvalue, .int .i64 xmate, .bool xsend, .bool false]) rfl rfl rfl fun w H => ?_
  refine H.st0 (cs' := #[.int .i64 xkind, .int .i64 xg, .int .i64 xchan, .int .i64 xcase_, .int .i64 xvalue, .int .i64 xmate, .bool xsend, .bool xok]) rfl rfl rfl fun w H => ?_
  refine ⟨?_⟩
  refine H.ldi 0 rfl (v := .int .i64 xkind) rfl ?_
  refine BB.vr fun q1 e1 => ?_
  cases q1
  ·skip
   have h1 := beq_eq_false_iff_ne.1 e1
   refine Cn.no ?_
   refine ⟨?_⟩
   refine IW.by (wrap_id (n := ↑i + 1) (by omega) (by omega)) ?_
   exact ⟨(i + 1, g), ⟨rfl, rfl, trivial⟩, ⟨⟨by omega, by rw [gre_take hxx, ← hg]; unfold greS; dsimp only; (repeat' split) <;> omega⟩, H.pick [1] 2 (by decide)⟩, (show l.length - (i + 1) < l.length - i by omega)⟩
  ·skip
   have h1 := eq_of_beq e1
   subst h1
   refine H.ldi 0 rfl (v := .int .i64 1) rfl ?_
   refine H.ldi 0 rfl (v := .int .i64 xg) rfl ?_
   refine H.ldi 0 rfl (v := .int .i64 xchan) rfl ?_
   refine H.ldi 0 rfl (v := .int .i64 xcase_) rfl ?_
   refine H.ldi 0 rfl (v := .int .i64 xvalue) rfl ?_
   refine H.ldi 0 rfl (v := .int .i64 xmate) rfl ?_
   refine H.ldi 0 rfl (v := .bool xsend) rfl ?_
   refine H.ldi 0 rfl (v := .bool xok) rfl ?_
   have K := g_mate ⟨1, xg, xchan, xcase_, xvalue, xmate, xsend, xok⟩ H
   dsimp only [Ev.agg] at K
   refine Cl.sl (by kernel_rfl) K fun w H => ?_
   refine BB.vr fun q2 e2 => ?_
   cases q2
   ·skip
    have h2 := of_decide_eq_false e2
    refine Cn.no ?_
    refine ⟨?_⟩
    refine IW.by (wrap_id (n := ↑i + 1) (by omega) (by omega)) ?_
    exact ⟨(i + 1, g), ⟨rfl, rfl, trivial⟩, ⟨⟨by omega, by rw [gre_take hxx, ← hg]; unfold greS; dsimp only; (repeat' split) <;> omega⟩, H.pick [1] 2 (by decide)⟩, (show l.length - (i + 1) < l.length - i by omega)⟩
   ·skip
    have h2 := of_decide_eq_true e2
    refine Cn.yes ?_
    refine ⟨?_⟩
    refine H.ldi 0 rfl (v := .int .i64 1) rfl ?_
    refine H.ldi 0 rfl (v := .int .i64 xg) rfl ?_
    refine H.ldi 0 rfl (v := .int .i64 xchan) rfl ?_
    refine H.ldi 0 rfl (v := .int .i64 xcase_) rfl ?_
    refine H.ldi 0 rfl (v := .int .i64 xvalue) rfl ?_
    refine H.ldi 0 rfl (v := .int .i64 xmate) rfl ?_
    refine H.ldi 0 rfl (v := .bool xsend) rfl ?_
    refine H.ldi 0 rfl (v := .bool xok) rfl ?_
    have K := g_mate ⟨1, xg, xchan, xcase_, xvalue, xmate, xsend, xok⟩ H
    dsimp only [Ev.agg] at K
    refine Cl.sl (by kernel_rfl) K fun w H => ?_
    refine IW.by (wrap_id (n := xmate + 1) (by omega) (by omega)) ?_
    refine Mn.maxI (.tmp 27) (.tmp 31) #[3, 3] (by rfl) (by rfl) (by rfl) ?_
    refine ⟨?_⟩
    refine IW.by (wrap_id (n := ↑i + 1) (by omega) (by omega)) ?_
    exact ⟨(i + 1, (if g < xmate + 1 then xmate + 1 else g)), ⟨rfl, rfl, trivial⟩, ⟨⟨by omega, by rw [gre_take hxx, ← hg]; unfold greS; dsimp only; (repeat' split) <;> omega⟩, H.pick [1] 2 (by decide)⟩, (show l.length - (i + 1) < l.length - i by omega)⟩
 ·skip
  have hob : i = l.length := by omega
  obtain rfl := hob
  rw [List.take_length] at hg
  subst g
  refine ⟨?_⟩
  refine BB.no (decide_eq_false (by omega)) ?_
  refine Cn.no ?_
  refine ⟨?_⟩
  refine ret1 (fn := Tryz.f62) (.int .i64 (greL 1 (·.mate) 1 l)) rfl (by rfl) ?_
  exact ⟨rfl, H⟩
theorem g_all_mate {w : World} {F : List Piece} {A : Piece} {la : Option Addr} {lc : Nat} {l : List Ev} (hR : Reader A 8 la l.length (l.flatMap Ev.cells)) (hll : l.length ≤ 2000) (hw : ∀ e ∈ l, EvWf e) (H : SL w (A :: F)) :
  Calls Tryz.prog 27 #[.slice la l.length lc] w fun o w' => o = .returned (.int .i64 (greL 1 (·.mate) 1 l)) ∧ SL w' (A :: F) := by
 refine calls_den (args := [_]) Tryz.func27 rfl (Nat.le_of_ble_eq_true (by kernel_rfl)) (by kernel_rfl) ?_
 refine ⟨?_⟩
 refine ⟨?_⟩
 refine Cl.sl (by kernel_rfl) (g_most_mate hR hll hw H) fun w H => ?_
 refine ret1 (fn := Tryz.f27) (.int .i64 (greL 1 (·.mate) 1 l)) rfl (by rfl) ?_
 exact ⟨rfl, H⟩
theorem g_most_chan {w : World} {F : List Piece} {A : Piece} {la : Option Addr} {lc : Nat} {l : List Ev} (hR : Reader A 8 la l.length (l.flatMap Ev.cells)) (hll : l.length ≤ 2000) (hw : ∀ e ∈ l, EvWf e) (H : SL w (A :: F)) :
  Calls Tryz.prog 62 #[.slice la l.length lc, .int .i64 2, .int .i64 0, .func (.func 64) #[] #[]] w fun o w' => o = .returned (.int .i64 (greL 2 (·.chan) 0 l)) ∧ SL w' (A :: F) := by
 refine calls_den (args := [_, _, _, _]) Tryz.func62 rfl (Nat.le_of_ble_eq_true (by kernel_rfl)) (by kernel_rfl) ?_
 refine ⟨?_⟩
 refine ⟨?_⟩
 refine ⟨?_⟩
 refine den.loop (ι := Nat × Int) [(2, 2), (10, 10), (13, 33)] (by kernel_rfl) (fun (i, g) => [(2, .int .i64 g), (13, .int .i64 ↑i)]) (fun (i, g) w => (i ≤ l.length ∧ g = (greL 2 (·.chan) 0 (l.take i))) ∧ SL w (A :: F)) (fun (i, g) => l.length - i) (0, 0) ⟨rfl, rfl, trivial⟩ ⟨⟨Nat.zero_le _, rfl⟩, H⟩ ?_
 rintro ⟨i, g⟩ s w ⟨hd, H⟩
 obtain ⟨hil, hg⟩ := hd
 have hob := Nat.lt_or_ge i l.length
 rcases hob with hi | hi
 ·skip
  have hob : ∃ x, l[i]? = some x := ⟨_, List.getElem?_eq_getElem hi⟩
  obtain ⟨⟨xkind, xg, xchan, xcase_, xvalue, xmate, xsend, xok⟩, hxx⟩ := hob
  have hxw := hw _ (List.mem_of_getElem? hxx)
  have hxm := hxw xmate (by simp)
  have hxc := hxw xchan (by simp)
  clear hxw
  have hob := H.addrR 0 rfl hR (by omega)
  obtain ⟨xb, xo, rfl⟩ := hob
  refine ⟨?_⟩
  refine BB.yes (decide_eq_true (by omega)) ?_
  refine Cn.yes ?_
  refine ⟨?_⟩
  refine ⟨?_⟩
  refine Ix.at i 8 (by kernel_rfl) (rfl) (hi) ?_
  refine H.ldR 0 rfl hR (by omega) (q := i * 8 + 0) rfl (v := .int .i64 xkind) ((ev_cell hxx 0 (by decide)).trans rfl) ?_
  refine H.ldR 0 rfl hR (by omega) (q := i * 8 + 1) rfl (v := .int .i64 xg) ((ev_cell hxx 1 (by decide)).trans rfl) ?_
  refine H.ldR 0 rfl hR (by omega) (q := i * 8 + 2) rfl (v := .int .i64 xchan) ((ev_cell hxx 2 (by decide)).trans rfl) ?_
  refine H.ldR 0 rfl hR (by omega) (q := i * 8 + 3) rfl (v := .int .i64 xcase_) ((ev_cell hxx 3 (by decide)).trans rfl) ?_
  refine H.ldR 0 rfl hR (by omega) (q := i * 8 + 4) rfl (v := .int .i64 xvalue) ((ev_cell hxx 4 (by decide)).trans rfl) ?_
  refine H.ldR 0 rfl hR (by omega) (q := i * 8 + 5) rfl (v := .int .i64 xmate) ((ev_cell hxx 5 (by decide)).trans rfl) ?_
  refine H.ldR 0 rfl hR (by omega) (q := i * 8 + 6) rfl (v := .bool xsend) ((ev_cell hxx 6 (by decide)).trans rfl) ?_
  refine H.ldR 0 rfl hR (by omega) (q := i * 8 + 7) rfl (v := .bool xok) ((ev_cell hxx 7 (by decide)).trans rfl) ?_
  refine Nw.as #[.int .i64 0, .int .i64 0, .int .i64 0, .int .i64 0, .int .i64 0, .int .i64 0, .bool false, .bool false] 53 rfl H fun b10 w H => ?_
  refine H.st0 (cs' := #[.int .i64 xkind, .int .i64 0, .int .i64 0, .int .i64 0, .int .i64 0, .int .i64 0, .bool false, .bool false]) rfl rfl rfl fun w H => ?_
  refine H.st0 (cs' := #[.int .i64 xkind, .int .i64 xg, .int .i64 0, .int .i64 0, .int .i64 0, .int .i64 0, .bool false, .bool false]) rfl rfl rfl fun w H => ?_
  refine H.st0 (cs' := #[.int .i64 xkind, .int .i64 xg, .int .i64 xchan, .int .i64 0, .int .i64 0, .int .i64 0, .bool false, .bool false]) rfl rfl rfl fun w H => ?_
  refine H.st0 (cs' := #[.int .i64 xkind, .int .i64 xg, .int .i64 xchan, .int .i64 xcase_, .int .i64 0, .int .i64 0, .bool false, .bool false]) rfl rfl rfl fun w H => ?_
  refine H.st0 (cs' := #[.int .i64 xkind, .int .i64 xg, .int .i64 xchan, .int .i64 xcase_, .int .i64 xvalue, .int .i64 0, .bool false, .bool false]) rfl rfl rfl fun w H => ?_
  refine H.st0 (cs' := #[.int .i64 xkind, .int .i64 xg, .int .i64 xchan, .int .i64 xcase_, .int .i64 xvalue, .int .i64 xmate, .bool false, .bool false]) rfl rfl rfl fun w H => ?_
  refine H.st0 (cs' := #[.int .i64 xkind, .int .i64 xg, .int .i64 xchan, .int .i64 xcase_, .int .i64 xvalue, .int .i64 xmate, .bool xsend, .bool false]) rfl rfl rfl fun w H => ?_
  refine H.st0 (cs' := #[.int .i64 xkind, .int .i64 xg, .int .i64 xchan, .int .i64 xcase_, .int .i64 xvalue, .int .i64 xmate, .bool xsend, .bool xok]) rfl rfl rfl fun w H => ?_
  refine ⟨?_⟩
  refine H.ldi 0 rfl (v := .int .i64 xkind) rfl ?_
  refine BB.vr fun q1 e1 => ?_
  cases q1
  ·skip
   have h1 := beq_eq_false_iff_ne.1 e1
   refine Cn.no ?_
   refine ⟨?_⟩
   refine IW.by (wrap_id (n := ↑i + 1) (by omega) (by omega)) ?_
   exact ⟨(i + 1, g), ⟨rfl, rfl, trivial⟩, ⟨⟨by omega, by rw [gre_take hxx, ← hg]; unfold greS; dsimp only; (repeat' split) <;> omega⟩, H.pick [1] 2 (by decide)⟩, (show l.length - (i + 1) < l.length - i by omega)⟩
  ·skip
   have h1 := eq_of_beq e1
   subst h1
   refine H.ldi 0 rfl (v := .int .i64 2) rfl ?_
   refine H.ldi 0 rfl (v := .int .i64 xg) rfl ?_
   refine H.ldi 0 rfl (v := .int .i64 xchan) rfl ?_
   refine H.ldi 0 rfl (v := .int .i64 xcase_) rfl ?_
   refine H.ldi 0 rfl (v := .int .i64 xvalue) rfl ?_
   refine H.ldi 0 rfl (v := .int .i64 xmate) rfl ?_
   refine H.ldi 0 rfl (v := .bool xsend) rfl ?_
   refine H.ldi 0 rfl (v := .bool xok) rfl ?_
   have K := g_chan ⟨2, xg, xchan, xcase_, xvalue, xmate, xsend, xok⟩ H
   dsimp only [Ev.agg] at K
   refine Cl.sl (by kernel_rfl) K fun w H => ?_
   refine BB.vr fun q2 e2 => ?_
   cases q2
   ·skip
    have h2 := of_decide_eq_false e2
    refine Cn.no ?_
    refine ⟨?_⟩
    refine IW.by (wrap_id (n := ↑i + 1) (by omega) (by omega)) ?_
    exact ⟨(i + 1, g), ⟨rfl, rfl, trivial⟩, ⟨⟨by omega, by rw [gre_take hxx, ← hg]; unfold greS; dsimp only; (repeat' split) <;> omega⟩, H.pick [1] 2 (by decide)⟩, (show l.length - (i + 1) < l.length - i by omega)⟩
   ·skip
    have h2 := of_decide_eq_true e2
    refine Cn.yes ?_
    refine ⟨?_⟩
    refine H.ldi 0 rfl (v := .int .i64 2) rfl ?_
    refine H.ldi 0 rfl (v := .int .i64 xg) rfl ?_
    refine H.ldi 0 rfl (v := .int .i64 xchan) rfl ?_
    refine H.ldi 0 rfl (v := .int .i64 xcase_) rfl ?_
    refine H.ldi 0 rfl (v := .int .i64 xvalue) rfl ?_
    refine H.ldi 0 rfl (v := .int .i64 xmate) rfl ?_
    refine H.ldi 0 rfl (v := .bool xsend) rfl ?_
    refine H.ldi 0 rfl (v := .bool xok) rfl ?_
    have K := g_chan ⟨2, xg, xchan, xcase_, xvalue, xmate, xsend, xok⟩ H
    dsimp only [Ev.agg] at K
    refine Cl.sl (by kernel_rfl) K fun w H => ?_
    refine IW.by (wrap_id (n := xchan + 1) (by omega) (by omega)) ?_
    refine Mn.maxI (.tmp 27) (.tmp 31) #[3, 3] (by rfl) (by rfl) (by rfl) ?_
    refine ⟨?_⟩
    refine IW.by (wrap_id (n := ↑i + 1) (by omega) (by omega)) ?_
    exact ⟨(i + 1, (if g < xchan + 1 then xchan + 1 else g)), ⟨rfl, rfl, trivial⟩, ⟨⟨by omega, by rw [gre_take hxx, ← hg]; unfold greS; dsimp only; (repeat' split) <;> omega⟩, H.pick [1] 2 (by decide)⟩, (show l.length - (i + 1) < l.length - i by omega)⟩
 ·skip
  have hob : i = l.length := by omega
  obtain rfl := hob
  rw [List.take_length] at hg
  subst g
  refine ⟨?_⟩
  refine BB.no (decide_eq_false (by omega)) ?_
  refine Cn.no ?_
  refine ⟨?_⟩
  refine ret1 (fn := Tryz.f62) (.int .i64 (greL 2 (·.chan) 0 l)) rfl (by rfl) ?_
  exact ⟨rfl, H⟩
theorem g_all_chan {w : World} {F : List Piece} {A : Piece} {la : Option Addr} {lc : Nat} {l : List Ev} (hR : Reader A 8 la l.length (l.flatMap Ev.cells)) (hll : l.length ≤ 2000) (hw : ∀ e ∈ l, EvWf e) (H : SL w (A :: F)) :
  Calls Tryz.prog 28 #[.slice la l.length lc] w fun o w' => o = .returned (.int .i64 (greL 2 (·.chan) 0 l)) ∧ SL w' (A :: F) := by
 refine calls_den (args := [_]) Tryz.func28 rfl (Nat.le_of_ble_eq_true (by kernel_rfl)) (by kernel_rfl) ?_
 refine ⟨?_⟩
 refine ⟨?_⟩
 refine Cl.sl (by kernel_rfl) (g_most_chan hR hll hw H) fun w H => ?_
 refine ret1 (fn := Tryz.f28) (.int .i64 (greL 2 (·.chan) 0 l)) rfl (by rfl) ?_
 exact ⟨rfl, H⟩
set_option maxHeartbeats 4000000 in
theorem l_counts {w : World} {F : List Piece} {A : Piece} {pa la da : Option Addr} {pc lc dc : Nat} {t m : Int} {X : List ProgX} {pl dr : List Int} (hX : 0 < X.length → ∃ b off, pa = some ⟨b, off, none⟩ ∧ ScrA A b off X) (hL : Reader A 1 la pl.length (ints pl)) (hD : Reader A 1 da dr.length (ints dr)) {la1 : Option Addr} {lc1 : Nat} {l : List Ev} (hR : Reader A 8 la1 l.length (l.flatMap Ev.cells)) (hw : ∀ e ∈ l, EvWf e) (hG : SpansA A) (H : SL w (A :: F)) : Calls Tryz.prog 6 #[.slice la1 l.length lc1, .agg #[.int .i64 t, .int .i64 m, .slice pa X.length pc, .slice la pl.length lc, .slice da dr.length dc]] w fun o w' => o = .returned (.bool true) ∧ SL w' (A :: F) := by
 by_cases hll : 2000 < l.length
 ·skip
  refine calls_den (args := [_, _]) Tryz.func6 rfl (Nat.le_of_ble_eq_true (by kernel_rfl)) (by kernel_rfl) ?_
  refine ⟨?_⟩
  refine Nw.as #[.int .i64 t, .int .i64 m, .slice pa X.length pc, .slice la pl.length lc, .slice da dr.length dc] 42 rfl H fun b3 w H => ?_
  refine ⟨?_⟩
  refine BB.yes (decide_eq_true (by omega)) ?_
  refine Cn.yes ?_
  refine ⟨?_⟩
  have h1 := H.pick [1, 0] 2 (by decide)
  simp only [pk, nth, pkA, pkB, pkC, pkD, pkE, pkF] at h1
  refine Cl.sl (by kernel_rfl) (l_exits hG h1) fun w H => ?_
  replace H := H.pick [1, 0] 2 (by decide)
  simp only [pk, nth, pkA, pkB, pkC, pkD, pkE, pkF] at H
  refine BB.yes rfl ?_
  refine ret1 (fn := Tryz.f6) (.bool true) rfl (by rfl) ?_
  exact ⟨rfl, H.pick [1] 2 (by decide)⟩
 ·by_cases hck : checkE ⟨t, m, progsM X, pl, dr⟩ = 0
  ·have hr := checkE_right hck
   have hn1 : 1 ≤ X.length := by have := hr.n1; simpa [progsM] using this
   have hpl : pl.length ≤ 200 := hr.pl
   have hll : l.length ≤ 2000 := by omega
   have hrw : ∀ e ∈ (runL ⟨t, m, progsM X, pl, dr⟩ (pl.length + 1)).tr, EvWf e := fun e he => ent_wf (run_right hck e he)
   refine calls_den (args := [_, _]) Tryz.func6 rfl (Nat.le_of_ble_eq_true (by kernel_rfl)) (by kernel_rfl) ?_
   refine ⟨?_⟩
   refine Nw.as #[.int .i64 t, .int .i64 m, .slice pa X.length pc, .slice la pl.length lc, .slice da dr.length dc] 42 rfl H fun b3 w H => ?_
   refine ⟨?_⟩
   refine BB.no (decide_eq_false (by omega)) ?_
   refine H.ldi 0 rfl (v := .int .i64 t) rfl ?_
   refine H.ldi 0 rfl (v := .int .i64 m) rfl ?_
   refine H.ldi 0 rfl (v := .slice pa X.length pc) rfl ?_
   refine H.ldi 0 rfl (v := .slice la pl.length lc) rfl ?_
   refine H.ldi 0 rfl (v := .slice da dr.length dc) rfl ?_
   have h1 := H.pick [1, 0] 2 (by decide)
   simp only [pk, nth, pkA, pkB, pkC, pkD, pkE, pkF] at h1
   refine Cl.by (by kernel_rfl) (l_large14 hX hL hD h1) ?_
   rintro _ w ⟨bl, rfl, H⟩
   refine ⟨_, rfl, ?_⟩
   replace H := H.pick [1, 0] 2 (by decide)
   simp only [pk, nth, pkA, pkB, pkC, pkD, pkE, pkF] at H
   refine BB.k ?_
   cases bl
   ·skip
    refine Cn.no ?_
    refine ⟨?_⟩
    refine ⟨?_⟩
    refine ⟨?_⟩
    refine ⟨?_⟩
    refine den.loop (ι := Nat × Int × Int) [(5, 6), (8, 8), (22, 60)] (by kernel_rfl) (fun (i, g, c) => [(5, .int .i64 g), (6, .int .i64 c), (22, .int .i64 ↑i)]) (fun (i, g, c) w => (i ≤ l.length ∧ g = (greL 1 (·.mate) 1 (l.take i)) ∧ c = (greL 2 (·.chan) 0 (l.take i))) ∧ SL w (row b3 #[.int .i64 t, .int .i64 m, .slice pa X.length pc, .slice la pl.length lc, .slice da dr.length dc] 42 :: A :: F)) (fun (i, g, c) => l.length - i) (0, 1, 0) ⟨rfl, rfl, rfl, trivial⟩ ⟨⟨Nat.zero_le _, rfl, rfl⟩, (H)⟩ ?_
    rintro ⟨i, g, c⟩ s w ⟨hd, H⟩
    obtain ⟨hil, hg, hc⟩ := hd
    have hob := Nat.lt_or_ge i l.length
    rcases hob with hi | hi
    ·skip
     have hob : ∃ x, l[i]? = some x := ⟨_, List.getElem?_eq_getElem hi⟩
     obtain ⟨⟨xkind, xg, xchan, xcase_, xvalue, xmate, xsend, xok⟩, hxx⟩ := hob
     have hxw := hw _ (List.mem_of_getElem? hxx)
     have hxm := hxw xmate (by simp)
     have hxc := hxw xchan (by simp)
     clear hxw
     have hg1 : 1 ≤ g := by rw [hg]; exact gre_ge _ _ _ _
     have hc0 : 0 ≤ c := by rw [hc]; exact gre_ge _ _ _ _
     have hob := H.addrR 1 rfl hR (by omega)
     obtain ⟨xb, xo, rfl⟩ := hob
     refine ⟨?_⟩
     refine BB.yes (decide_eq_true (by omega)) ?_
     refine Cn.yes ?_
     refine ⟨?_⟩
     refine ⟨?_⟩
     refine Ix.at i 8 (by kernel_rfl) (rfl) (hi) ?_
     refine H.ldR 1 rfl hR (by omega) (q := i * 8 + 0) rfl (v := .int .i64 xkind) ((ev_cell hxx 0 (by decide)).trans rfl) ?_
     refine H.ldR 1 rfl hR (by omega) (q := i * 8 + 1) rfl (v := .int .i64 xg) ((ev_cell hxx 1 (by decide)).trans rfl) ?_
     refine H.ldR 1 rfl hR (by omega) (q := i * 8 + 2) rfl (v := .int .i64 xchan) ((ev_cell hxx 2 (by decide)).trans rfl) ?_
     refine H.ldR 1 rfl hR (by omega) (q := i * 8 + 3) rfl (v := .int .i64 xcase_) ((ev_cell hxx 3 (by decide)).trans rfl) ?_
     refine H.ldR 1 rfl hR (by omega) (q := i * 8 + 4) rfl (v := .int .i64 xvalue) ((ev_cell hxx 4 (by decide)).trans rfl) ?_
     refine H.ldR 1 rfl hR (by omega) (q := i * 8 + 5) rfl (v := .int .i64 xmate) ((ev_cell hxx 5 (by decide)).trans rfl) ?_
     refine H.ldR 1 rfl hR (by omega) (q := i * 8 + 6) rfl (v := .bool xsend) ((ev_cell hxx 6 (by decide)).trans rfl) ?_
     refine H.ldR 1 rfl hR (by omega) (q := i * 8 + 7) rfl (v := .bool xok) ((ev_cell hxx 7 (by decide)).trans rfl) ?_
     refine Nw.as #[.int .i64 0, .int .i64 0, .int .i64 0, .int .i64 0, .int .i64 0, .int .i64 0, .bool false, .bool false] 53 rfl H fun b8 w H => ?_
     refine H.st0 (cs' := #[.int .i64 xkind, .int .i64 0, .int .i64 0, .int .i64 0, .int .i64 0, .int .i64 0, .bool false, .bool false]) rfl rfl rfl fun w H => ?_
     refine H.st0 (cs' := #[.int .i64 xkind, .int .i64 xg, .int .i64 0, .int .i64 0, .int .i64 0, .int .i64 0, .bool false, .bool false]) rfl rfl rfl fun w H => ?_
     refine H.st0 (cs' := #[.int .i64 xkind, .int .i64 xg, .int .i64 xchan, .int .i64 0, .int .i64 0, .int .i64 0, .bool false, .bool false]) rfl rfl rfl fun w H => ?_
     refine H.st0 (cs' := #[.int .i64 xkind, .int .i64 xg, .int .i64 xchan, .int .i64 xcase_, .int .i64 0, .int .i64 0, .bool false, .bool false]) rfl rfl rfl fun w H => ?_
     refine H.st0 (cs' := #[.int .i64 xkind, .int .i64 xg, .int .i64 xchan, .int .i64 xcase_, .int .i64 xvalue, .int .i64 0, .bool false, .bool false]) rfl rfl rfl fun w H => ?_
     refine H.st0 (cs' := #[.int .i64 xkind, .int .i64 xg, .int .i64 xchan, .int .i64 xcase_, .int .i64 xvalue, .int .i64 xmate, .bool false, .bool false]) rfl rfl rfl fun w H => ?_
     refine H.st0 (cs' := #[.int .i64 xkind, .int .i64 xg, .int .i64 xchan, .int .i64 xcase_, .int .i64 xvalue, .int .i64 xmate, .bool xsend, .bool false]) rfl rfl rfl fun w H => ?_
     refine H.st0 (cs' := #[.int .i64 xkind, .int .i64 xg, .int .i64 xchan, .int .i64 xcase_, .int .i64 xvalue, .int .i64 xmate, .bool xsend, .bool xok]) rfl rfl rfl fun w H => ?_
     refine ⟨?_⟩
     refine H.ldi 0 rfl (v := .int .i64 xkind) rfl ?_
     refine BB.vr fun q1 e1 => ?_
     cases q1
     ·skip
      have h1 := beq_eq_false_iff_ne.1 e1
      refine Cn.no ?_
      refine ⟨?_⟩
      refine H.ldi 0 rfl (v := .int .i64 xkind) rfl ?_
      refine BB.vr fun q2 e2 => ?_
      cases q2
      ·skip
       have h2 := beq_eq_false_iff_ne.1 e2
       refine Cn.no ?_
       refine ⟨?_⟩
       refine IW.by (wrap_id (n := ↑i + 1) (by omega) (by omega)) ?_
       exact ⟨(i + 1, g, c), ⟨rfl, rfl, rfl, trivial⟩, ⟨⟨by omega, by rw [gre_take hxx, ← hg]; unfold greS; dsimp only; (repeat' split) <;> omega, by rw [gre_take hxx, ← hc]; unfold greS; dsimp only; (repeat' split) <;> omega⟩, H.pick [1, 2] 3 (by decide)⟩, (show l.length - (i + 1) < l.length - i by omega)⟩
      ·skip
       have h2 := eq_of_beq e2
       subst h2
       refine H.ldi 0 rfl (v := .int .i64 xchan) rfl ?_
       refine BB.vr fun q3 e3 => ?_
       cases q3
       ·skip
        have h3 := of_decide_eq_false e3
        refine Cn.no ?_
        refine ⟨?_⟩
        refine IW.by (wrap_id (n := ↑i + 1) (by omega) (by omega)) ?_
        exact ⟨(i + 1, g, c), ⟨rfl, rfl, rfl, trivial⟩, ⟨⟨by omega, by rw [gre_take hxx, ← hg]; unfold greS; dsimp only; (repeat' split) <;> omega, by rw [gre_take hxx, ← hc]; unfold greS; dsimp only; (repeat' split) <;> omega⟩, H.pick [1, 2] 3 (by decide)⟩, (show l.length - (i + 1) < l.length - i by omega)⟩
       ·skip
        have h3 := of_decide_eq_true e3
        refine H.ldi 0 rfl (v := .int .i64 xchan) rfl ?_
        refine BB.vr fun q4 e4 => ?_
        cases q4
        ·skip
         have h4 := of_decide_eq_false e4
         refine Cn.no ?_
         refine ⟨?_⟩
         refine IW.by (wrap_id (n := ↑i + 1) (by omega) (by omega)) ?_
         exact ⟨(i + 1, g, c), ⟨rfl, rfl, rfl, trivial⟩, ⟨⟨by omega, by rw [gre_take hxx, ← hg]; unfold greS; dsimp only; (repeat' split) <;> omega, by rw [gre_take hxx, ← hc]; unfold greS; dsimp only; (repeat' split) <;> omega⟩, H.pick [1, 2] 3 (by decide)⟩, (show l.length - (i + 1) < l.length - i by omega)⟩
        ·skip
         have h4 := of_decide_eq_true e4
         refine Cn.yes ?_
         refine ⟨?_⟩
         refine H.ldi 0 rfl (v := .int .i64 xchan) rfl ?_
         refine IW.by (wrap_id (n := xchan + 1) (by omega) (by omega)) ?_
         refine ⟨?_⟩
         refine IW.by (wrap_id (n := ↑i + 1) (by omega) (by omega)) ?_
         exact ⟨(i + 1, g, xchan + 1), ⟨rfl, rfl, rfl, trivial⟩, ⟨⟨by omega, by rw [gre_take hxx, ← hg]; unfold greS; dsimp only; (repeat' split) <;> omega, by rw [gre_take hxx, ← hc]; unfold greS; dsimp only; (repeat' split) <;> omega⟩, H.pick [1, 2] 3 (by decide)⟩, (show l.length - (i + 1) < l.length - i by omega)⟩
     ·skip
      have h1 := eq_of_beq e1
      subst h1
      refine H.ldi 0 rfl (v := .int .i64 xmate) rfl ?_
      refine BB.vr fun q5 e5 => ?_
      cases q5
      ·skip
       have h5 := of_decide_eq_false e5
       refine Cn.no ?_
       refine ⟨?_⟩
       refine H.ldi 0 rfl (v := .int .i64 1) rfl ?_
       refine BB.no rfl ?_
       refine Cn.no ?_
       refine ⟨?_⟩
       refine IW.by (wrap_id (n := ↑i + 1) (by omega) (by omega)) ?_
       exact ⟨(i + 1, g, c), ⟨rfl, rfl, rfl, trivial⟩, ⟨⟨by omega, by rw [gre_take hxx, ← hg]; unfold greS; dsimp only; (repeat' split) <;> omega, by rw [gre_take hxx, ← hc]; unfold greS; dsimp only; (repeat' split) <;> omega⟩, H.pick [1, 2] 3 (by decide)⟩, (show l.length - (i + 1) < l.length - i by omega)⟩
      ·skip
       have h5 := of_decide_eq_true e5
       refine H.ldi 0 rfl (v := .int .i64 xmate) rfl ?_
       refine BB.vr fun q6 e6 => ?_
       cases q6
       ·skip
        have h6 := of_decide_eq_false e6
        refine Cn.no ?_
        refine ⟨?_⟩
        refine H.ldi 0 rfl (v := .int .i64 1) rfl ?_
        refine BB.no rfl ?_
        refine Cn.no ?_
        refine ⟨?_⟩
        refine IW.by (wrap_id (n := ↑i + 1) (by omega) (by omega)) ?_
        exact ⟨(i + 1, g, c), ⟨rfl, rfl, rfl, trivial⟩, ⟨⟨by omega, by rw [gre_take hxx, ← hg]; unfold greS; dsimp only; (repeat' split) <;> omega, by rw [gre_take hxx, ← hc]; unfold greS; dsimp only; (repeat' split) <;> omega⟩, H.pick [1, 2] 3 (by decide)⟩, (show l.length - (i + 1) < l.length - i by omega)⟩
       ·skip
        have h6 := of_decide_eq_true e6
        refine Cn.yes ?_
        refine ⟨?_⟩
        refine H.ldi 0 rfl (v := .int .i64 xmate) rfl ?_
        refine IW.by (wrap_id (n := xmate + 1) (by omega) (by omega)) ?_
        refine ⟨?_⟩
        refine H.ldi 0 rfl (v := .int .i64 1) rfl ?_
        refine BB.no rfl ?_
        refine Cn.no ?_
        refine ⟨?_⟩
        refine IW.by (wrap_id (n := ↑i + 1) (by omega) (by omega)) ?_
        exact ⟨(i + 1, xmate + 1, c), ⟨rfl, rfl, rfl, trivial⟩, ⟨⟨by omega, by rw [gre_take hxx, ← hg]; unfold greS; dsimp only; (repeat' split) <;> omega, by rw [gre_take hxx, ← hc]; unfold greS; dsimp only; (repeat' split) <;> omega⟩, H.pick [1, 2] 3 (by decide)⟩, (show l.length - (i + 1) < l.length - i by omega)⟩
    ·skip
     have hob : i = l.length := by omega
     obtain rfl := hob
     rw [List.take_length] at hg hc
     subst g
     subst c
     refine ⟨?_⟩
     refine BB.no (decide_eq_false (by omega)) ?_
     refine Cn.no ?_
     refine ⟨?_⟩
     have h1 := H.pick [1, 0] 2 (by decide)
     simp only [pk, nth, pkA, pkB, pkC, pkD, pkE, pkF] at h1
     refine Cl.sl (by kernel_rfl) (g_all_mate hR hll hw h1) fun w H => ?_
     replace H := H.pick [1, 0] 2 (by decide)
     simp only [pk, nth, pkA, pkB, pkC, pkD, pkE, pkF] at H
     refine BB.no (bne_self_eq_false _) ?_
     have h1 := H.pick [1, 0] 2 (by decide)
     simp only [pk, nth, pkA, pkB, pkC, pkD, pkE, pkF] at h1
     refine Cl.sl (by kernel_rfl) (g_all_chan hR hll hw h1) fun w H => ?_
     replace H := H.pick [1, 0] 2 (by decide)
     simp only [pk, nth, pkA, pkB, pkC, pkD, pkE, pkF] at H
     refine BB.no (bne_self_eq_false _) ?_
     refine Cn.no ?_
     refine ⟨?_⟩
     refine H.ldi 0 rfl (v := .int .i64 t) rfl ?_
     refine H.ldi 0 rfl (v := .int .i64 m) rfl ?_
     refine H.ldi 0 rfl (v := .slice pa X.length pc) rfl ?_
     refine H.ldi 0 rfl (v := .slice la pl.length lc) rfl ?_
     refine H.ldi 0 rfl (v := .slice da dr.length dc) rfl ?_
     have h1 := H.pick [1, 0] 2 (by decide)
     simp only [pk, nth, pkA, pkB, pkC, pkD, pkE, pkF] at h1
     refine Cl.by (by kernel_rfl) (p_new_ok hX hL hD hck h1) ?_
     rintro _ w ⟨lm, Z, vb, vc, la', lc', da', dc', hZ, hzl, hgood, rfl, H⟩
     refine ⟨_, rfl, ?_⟩
     replace H := H.pick [0, 1, 3, 2] 4 (by decide)
     simp only [pk, nth, pkA, pkB, pkC, pkD, pkE, pkF] at H
     have hXZ := scrP_A (vc := vc) hgood (rfl : some (⟨vb, 0, none⟩ : Addr) = _)
     refine ⟨?_⟩
     refine BB.no rfl ?_
     refine BB.no rfl ?_
     refine Cn.no ?_
     refine ⟨?_⟩
     refine ⟨?_⟩
     refine den.loop (ι := Nat) [(11, 11), (83, 91)] (by kernel_rfl) (fun i => [(11, .int .i64 ↑i)]) (fun i w => i ≤ pl.length + 1 ∧ SL w (row b3 #[.int .i64 t, .int .i64 m, .slice pa X.length pc, .slice la pl.length lc, .slice da dr.length dc] 42 :: LmP lm ⟨t, m, progsM X, pl, dr⟩ ⟨t, m, .slice (some ⟨vb, 0, none⟩) Z.length vc, .slice la' pl.length lc', .slice da' dr.length dc'⟩ (runL ⟨t, m, progsM X, pl, dr⟩ i) :: scrP (some ⟨vb, 0, none⟩) vc Z :: A :: F)) (fun i => pl.length + 1 - i) 0 ⟨rfl, trivial⟩ ⟨Nat.zero_le _, (H.pick [2, 0, 1, 3] 4 (by decide))⟩ ?_
     rintro i s w ⟨hc, H⟩
     have hob := Nat.lt_or_ge i (pl.length + 1)
     rcases hob with hip | hip
     ·skip
      have hk := Lk.run (s := ⟨t, m, progsM X, pl, dr⟩) hr.ok (np := X.length) (by unfold progsM; rw [List.length_map]) hn1 (i)
      have hob := eight hk.n8
      obtain ⟨n0, n1, n2, n3, n4, n5, n6, n7, hn⟩ := hob
      have hob : ∃ x, runL ⟨t, m, progsM X, pl, dr⟩ i = x := ⟨_, rfl⟩
      obtain ⟨x, hx⟩ := hob
      rw [hx] at H hk hn
      refine ⟨?_⟩
      refine H.ldi 0 rfl (v := .slice la pl.length lc) rfl ?_
      refine BB.yes (decide_eq_true (by omega)) ?_
      refine Cn.yes ?_
      refine ⟨?_⟩
      refine ⟨?_⟩
      have h1 := H.pick [1, 2, 0, 3] 4 (by decide)
      simp only [pk, nth, pkA, pkB, pkC, pkD, pkE, pkF] at h1
      refine Cl.by (by kernel_rfl) (p_step (sc := ⟨t, m, progsM X, pl, dr⟩) hn hk (by omega) hZ.symm hr.ok hzl hn1 hXZ hr.p0 hr.d0 h1) ?_
      rintro _ w ⟨kb, kd, rfl, H⟩
      refine ⟨_, rfl, ?_⟩
      replace H := H.tl
      replace H := H.pick [2, 0, 1, 3] 4 (by decide)
      simp only [pk, nth, pkA, pkB, pkC, pkD, pkE, pkF] at H
      refine ⟨?_⟩
      refine IW.by (wrap_id (n := ↑i + 1) (by omega) (by omega)) ?_
      have hxy : runL ⟨t, m, progsM X, pl, dr⟩ (i + 1) = stepL ⟨t, m, progsM X, pl, dr⟩ x := by show stepL ⟨t, m, progsM X, pl, dr⟩ (runL ⟨t, m, progsM X, pl, dr⟩ i) = _; rw [hx]
      rw [← hxy] at H
      exact ⟨i + 1, ⟨rfl, trivial⟩, ⟨(by omega : i + 1 ≤ pl.length + 1), H⟩, (show pl.length + 1 - (i + 1) < pl.length + 1 - i by omega)⟩
     ·skip
      have hob : i = pl.length + 1 := by omega
      obtain rfl := hob
      refine ⟨?_⟩
      refine H.ldi 0 rfl (v := .slice la pl.length lc) rfl ?_
      refine BB.no (decide_eq_false (by omega)) ?_
      refine Cn.no ?_
      refine ⟨?_⟩
      have hk := Lk.run (s := ⟨t, m, progsM X, pl, dr⟩) hr.ok (np := X.length) (by unfold progsM; rw [List.length_map]) hn1 (pl.length + 1)
      have hob := eight hk.n8
      obtain ⟨n0, n1, n2, n3, n4, n5, n6, n7, hn⟩ := hob
      have h1 := H.pick [1, 0, 2, 3] 4 (by decide)
      simp only [pk, nth, pkA, pkB, pkC, pkD, pkE, pkF] at h1
      refine Cl.by (by kernel_rfl) (p_trace hn hk (by omega) h1) ?_
      rintro _ w ⟨ka, kc, rfl, H⟩
      refine ⟨_, rfl, ?_⟩
      replace H := H.pick [0, 2, 1, 3, 4] 5 (by decide)
      simp only [pk, nth, pkA, pkB, pkC, pkD, pkE, pkF] at H
      have h1 := H
      refine Cl.sl (by kernel_rfl) (g_all_mate Reader.slc (Nat.le_trans (run_short hck) (by decide)) hrw h1) fun w H => ?_
      have h1 := H.pick [2, 0, 1, 3, 4] 5 (by decide)
      simp only [pk, nth, pkA, pkB, pkC, pkD, pkE, pkF] at h1
      refine Cl.sl (by kernel_rfl) (p_lenL hn hk h1) fun w H => ?_
      replace H := H.pick [1, 2, 0, 3, 4] 5 (by decide)
      simp only [pk, nth, pkA, pkB, pkC, pkD, pkE, pkF] at H
      refine BB.yes (beq_iff_eq.2 (run_counts hck)) ?_
      have h1 := H.pick [4, 0, 1, 2, 3] 5 (by decide)
      simp only [pk, nth, pkA, pkB, pkC, pkD, pkE, pkF] at h1
      refine Cl.sl (by kernel_rfl) (l_exits hG h1) fun w H => ?_
      replace H := H.pick [1, 2, 3, 4, 0] 5 (by decide)
      simp only [pk, nth, pkA, pkB, pkC, pkD, pkE, pkF] at H
      refine BB.yes rfl ?_
      refine ret1 (fn := Tryz.f6) (.bool true) rfl (by rfl) ?_
      exact ⟨rfl, H.pick [4] 5 (by decide)⟩
   ·skip
    refine Cn.yes ?_
    refine ⟨?_⟩
    have h1 := H.pick [1, 0] 2 (by decide)
    simp only [pk, nth, pkA, pkB, pkC, pkD, pkE, pkF] at h1
    refine Cl.sl (by kernel_rfl) (l_exits hG h1) fun w H => ?_
    replace H := H.pick [1, 0] 2 (by decide)
    simp only [pk, nth, pkA, pkB, pkC, pkD, pkE, pkF] at H
    refine BB.yes rfl ?_
    refine ret1 (fn := Tryz.f6) (.bool true) rfl (by rfl) ?_
    exact ⟨rfl, H.pick [1] 2 (by decide)⟩
  ·have hll : l.length ≤ 2000 := by omega
   refine calls_den (args := [_, _]) Tryz.func6 rfl (Nat.le_of_ble_eq_true (by kernel_rfl)) (by kernel_rfl) ?_
   refine ⟨?_⟩
   refine Nw.as #[.int .i64 t, .int .i64 m, .slice pa X.length pc, .slice la pl.length lc, .slice da dr.length dc] 42 rfl H fun b3 w H => ?_
   refine ⟨?_⟩
   refine BB.no (decide_eq_false (by omega)) ?_
   refine H.ldi 0 rfl (v := .int .i64 t) rfl ?_
   refine H.ldi 0 rfl (v := .int .i64 m) rfl ?_
   refine H.ldi 0 rfl (v := .slice pa X.length pc) rfl ?_
   refine H.ldi 0 rfl (v := .slice la pl.length lc) rfl ?_
   refine H.ldi 0 rfl (v := .slice da dr.length dc) rfl ?_
   have h1 := H.pick [1, 0] 2 (by decide)
   simp only [pk, nth, pkA, pkB, pkC, pkD, pkE, pkF] at h1
   refine Cl.by (by kernel_rfl) (l_large14 hX hL hD h1) ?_
   rintro _ w ⟨bl, rfl, H⟩
   refine ⟨_, rfl, ?_⟩
   replace H := H.pick [1, 0] 2 (by decide)
   simp only [pk, nth, pkA, pkB, pkC, pkD, pkE, pkF] at H
   refine BB.k ?_
   cases bl
   ·skip
    refine Cn.no ?_
    refine ⟨?_⟩
    refine ⟨?_⟩
    refine ⟨?_⟩
    refine ⟨?_⟩
    refine den.loop (ι := Nat × Int × Int) [(5, 6), (8, 8), (22, 60)] (by kernel_rfl) (fun (i, g, c) => [(5, .int .i64 g), (6, .int .i64 c), (22, .int .i64 ↑i)]) (fun (i, g, c) w => (i ≤ l.length ∧ g = (greL 1 (·.mate) 1 (l.take i)) ∧ c = (greL 2 (·.chan) 0 (l.take i))) ∧ SL w (row b3 #[.int .i64 t, .int .i64 m, .slice pa X.length pc, .slice la pl.length lc, .slice da dr.length dc] 42 :: A :: F)) (fun (i, g, c) => l.length - i) (0, 1, 0) ⟨rfl, rfl, rfl, trivial⟩ ⟨⟨Nat.zero_le _, rfl, rfl⟩, (H)⟩ ?_
    rintro ⟨i, g, c⟩ s w ⟨hd, H⟩
    obtain ⟨hil, hg, hc⟩ := hd
    have hob := Nat.lt_or_ge i l.length
    rcases hob with hi | hi
    ·skip
     have hob : ∃ x, l[i]? = some x := ⟨_, List.getElem?_eq_getElem hi⟩
     obtain ⟨⟨xkind, xg, xchan, xcase_, xvalue, xmate, xsend, xok⟩, hxx⟩ := hob
     have hxw := hw _ (List.mem_of_getElem? hxx)
     have hxm := hxw xmate (by simp)
     have hxc := hxw xchan (by simp)
     clear hxw
     have hg1 : 1 ≤ g := by rw [hg]; exact gre_ge _ _ _ _
     have hc0 : 0 ≤ c := by rw [hc]; exact gre_ge _ _ _ _
     have hob := H.addrR 1 rfl hR (by omega)
     obtain ⟨xb, xo, rfl⟩ := hob
     refine ⟨?_⟩
     refine BB.yes (decide_eq_true (by omega)) ?_
     refine Cn.yes ?_
     refine ⟨?_⟩
     refine ⟨?_⟩
     refine Ix.at i 8 (by kernel_rfl) (rfl) (hi) ?_
     refine H.ldR 1 rfl hR (by omega) (q := i * 8 + 0) rfl (v := .int .i64 xkind) ((ev_cell hxx 0 (by decide)).trans rfl) ?_
     refine H.ldR 1 rfl hR (by omega) (q := i * 8 + 1) rfl (v := .int .i64 xg) ((ev_cell hxx 1 (by decide)).trans rfl) ?_
     refine H.ldR 1 rfl hR (by omega) (q := i * 8 + 2) rfl (v := .int .i64 xchan) ((ev_cell hxx 2 (by decide)).trans rfl) ?_
     refine H.ldR 1 rfl hR (by omega) (q := i * 8 + 3) rfl (v := .int .i64 xcase_) ((ev_cell hxx 3 (by decide)).trans rfl) ?_
     refine H.ldR 1 rfl hR (by omega) (q := i * 8 + 4) rfl (v := .int .i64 xvalue) ((ev_cell hxx 4 (by decide)).trans rfl) ?_
     refine H.ldR 1 rfl hR (by omega) (q := i * 8 + 5) rfl (v := .int .i64 xmate) ((ev_cell hxx 5 (by decide)).trans rfl) ?_
     refine H.ldR 1 rfl hR (by omega) (q := i * 8 + 6) rfl (v := .bool xsend) ((ev_cell hxx 6 (by decide)).trans rfl) ?_
     refine H.ldR 1 rfl hR (by omega) (q := i * 8 + 7) rfl (v := .bool xok) ((ev_cell hxx 7 (by decide)).trans rfl) ?_
     refine Nw.as #[.int .i64 0, .int .i64 0, .int .i64 0, .int .i64 0, .int .i64 0, .int .i64 0, .bool false, .bool false] 53 rfl H fun b8 w H => ?_
     refine H.st0 (cs' := #[.int .i64 xkind, .int .i64 0, .int .i64 0, .int .i64 0, .int .i64 0, .int .i64 0, .bool false, .bool false]) rfl rfl rfl fun w H => ?_
     refine H.st0 (cs' := #[.int .i64 xkind, .int .i64 xg, .int .i64 0, .int .i64 0, .int .i64 0, .int .i64 0, .bool false, .bool false]) rfl rfl rfl fun w H => ?_
     refine H.st0 (cs' := #[.int .i64 xkind, .int .i64 xg, .int .i64 xchan, .int .i64 0, .int .i64 0, .int .i64 0, .bool false, .bool false]) rfl rfl rfl fun w H => ?_
     refine H.st0 (cs' := #[.int .i64 xkind, .int .i64 xg, .int .i64 xchan, .int .i64 xcase_, .int .i64 0, .int .i64 0, .bool false, .bool false]) rfl rfl rfl fun w H => ?_
     refine H.st0 (cs' := #[.int .i64 xkind, .int .i64 xg, .int .i64 xchan, .int .i64 xcase_, .int .i64 xvalue, .int .i64 0, .bool false, .bool false]) rfl rfl rfl fun w H => ?_
     refine H.st0 (cs' := #[.int .i64 xkind, .int .i64 xg, .int .i64 xchan, .int .i64 xcase_, .int .i64 xvalue, .int .i64 xmate, .bool false, .bool false]) rfl rfl rfl fun w H => ?_
     refine H.st0 (cs' := #[.int .i64 xkind, .int .i64 xg, .int .i64 xchan, .int .i64 xcase_, .int .i64 xvalue, .int .i64 xmate, .bool xsend, .bool false]) rfl rfl rfl fun w H => ?_
     refine H.st0 (cs' := #[.int .i64 xkind, .int .i64 xg, .int .i64 xchan, .int .i64 xcase_, .int .i64 xvalue, .int .i64 xmate, .bool xsend, .bool xok]) rfl rfl rfl fun w H => ?_
     refine ⟨?_⟩
     refine H.ldi 0 rfl (v := .int .i64 xkind) rfl ?_
     refine BB.vr fun q1 e1 => ?_
     cases q1
     ·skip
      have h1 := beq_eq_false_iff_ne.1 e1
      refine Cn.no ?_
      refine ⟨?_⟩
      refine H.ldi 0 rfl (v := .int .i64 xkind) rfl ?_
      refine BB.vr fun q2 e2 => ?_
      cases q2
      ·skip
       have h2 := beq_eq_false_iff_ne.1 e2
       refine Cn.no ?_
       refine ⟨?_⟩
       refine IW.by (wrap_id (n := ↑i + 1) (by omega) (by omega)) ?_
       exact ⟨(i + 1, g, c), ⟨rfl, rfl, rfl, trivial⟩, ⟨⟨by omega, by rw [gre_take hxx, ← hg]; unfold greS; dsimp only; (repeat' split) <;> omega, by rw [gre_take hxx, ← hc]; unfold greS; dsimp only; (repeat' split) <;> omega⟩, H.pick [1, 2] 3 (by decide)⟩, (show l.length - (i + 1) < l.length - i by omega)⟩
      ·skip
       have h2 := eq_of_beq e2
       subst h2
       refine H.ldi 0 rfl (v := .int .i64 xchan) rfl ?_
       refine BB.vr fun q3 e3 => ?_
       cases q3
       ·skip
        have h3 := of_decide_eq_false e3
        refine Cn.no ?_
        refine ⟨?_⟩
        refine IW.by (wrap_id (n := ↑i + 1) (by omega) (by omega)) ?_
        exact ⟨(i + 1, g, c), ⟨rfl, rfl, rfl, trivial⟩, ⟨⟨by omega, by rw [gre_take hxx, ← hg]; unfold greS; dsimp only; (repeat' split) <;> omega, by rw [gre_take hxx, ← hc]; unfold greS; dsimp only; (repeat' split) <;> omega⟩, H.pick [1, 2] 3 (by decide)⟩, (show l.length - (i + 1) < l.length - i by omega)⟩
       ·skip
        have h3 := of_decide_eq_true e3
        refine H.ldi 0 rfl (v := .int .i64 xchan) rfl ?_
        refine BB.vr fun q4 e4 => ?_
        cases q4
        ·skip
         have h4 := of_decide_eq_false e4
         refine Cn.no ?_
         refine ⟨?_⟩
         refine IW.by (wrap_id (n := ↑i + 1) (by omega) (by omega)) ?_
         exact ⟨(i + 1, g, c), ⟨rfl, rfl, rfl, trivial⟩, ⟨⟨by omega, by rw [gre_take hxx, ← hg]; unfold greS; dsimp only; (repeat' split) <;> omega, by rw [gre_take hxx, ← hc]; unfold greS; dsimp only; (repeat' split) <;> omega⟩, H.pick [1, 2] 3 (by decide)⟩, (show l.length - (i + 1) < l.length - i by omega)⟩
        ·skip
         have h4 := of_decide_eq_true e4
         refine Cn.yes ?_
         refine ⟨?_⟩
         refine H.ldi 0 rfl (v := .int .i64 xchan) rfl ?_
         refine IW.by (wrap_id (n := xchan + 1) (by omega) (by omega)) ?_
         refine ⟨?_⟩
         refine IW.by (wrap_id (n := ↑i + 1) (by omega) (by omega)) ?_
         exact ⟨(i + 1, g, xchan + 1), ⟨rfl, rfl, rfl, trivial⟩, ⟨⟨by omega, by rw [gre_take hxx, ← hg]; unfold greS; dsimp only; (repeat' split) <;> omega, by rw [gre_take hxx, ← hc]; unfold greS; dsimp only; (repeat' split) <;> omega⟩, H.pick [1, 2] 3 (by decide)⟩, (show l.length - (i + 1) < l.length - i by omega)⟩
     ·skip
      have h1 := eq_of_beq e1
      subst h1
      refine H.ldi 0 rfl (v := .int .i64 xmate) rfl ?_
      refine BB.vr fun q5 e5 => ?_
      cases q5
      ·skip
       have h5 := of_decide_eq_false e5
       refine Cn.no ?_
       refine ⟨?_⟩
       refine H.ldi 0 rfl (v := .int .i64 1) rfl ?_
       refine BB.no rfl ?_
       refine Cn.no ?_
       refine ⟨?_⟩
       refine IW.by (wrap_id (n := ↑i + 1) (by omega) (by omega)) ?_
       exact ⟨(i + 1, g, c), ⟨rfl, rfl, rfl, trivial⟩, ⟨⟨by omega, by rw [gre_take hxx, ← hg]; unfold greS; dsimp only; (repeat' split) <;> omega, by rw [gre_take hxx, ← hc]; unfold greS; dsimp only; (repeat' split) <;> omega⟩, H.pick [1, 2] 3 (by decide)⟩, (show l.length - (i + 1) < l.length - i by omega)⟩
      ·skip
       have h5 := of_decide_eq_true e5
       refine H.ldi 0 rfl (v := .int .i64 xmate) rfl ?_
       refine BB.vr fun q6 e6 => ?_
       cases q6
       ·skip
        have h6 := of_decide_eq_false e6
        refine Cn.no ?_
        refine ⟨?_⟩
        refine H.ldi 0 rfl (v := .int .i64 1) rfl ?_
        refine BB.no rfl ?_
        refine Cn.no ?_
        refine ⟨?_⟩
        refine IW.by (wrap_id (n := ↑i + 1) (by omega) (by omega)) ?_
        exact ⟨(i + 1, g, c), ⟨rfl, rfl, rfl, trivial⟩, ⟨⟨by omega, by rw [gre_take hxx, ← hg]; unfold greS; dsimp only; (repeat' split) <;> omega, by rw [gre_take hxx, ← hc]; unfold greS; dsimp only; (repeat' split) <;> omega⟩, H.pick [1, 2] 3 (by decide)⟩, (show l.length - (i + 1) < l.length - i by omega)⟩
       ·skip
        have h6 := of_decide_eq_true e6
        refine Cn.yes ?_
        refine ⟨?_⟩
        refine H.ldi 0 rfl (v := .int .i64 xmate) rfl ?_
        refine IW.by (wrap_id (n := xmate + 1) (by omega) (by omega)) ?_
        refine ⟨?_⟩
        refine H.ldi 0 rfl (v := .int .i64 1) rfl ?_
        refine BB.no rfl ?_
        refine Cn.no ?_
        refine ⟨?_⟩
        refine IW.by (wrap_id (n := ↑i + 1) (by omega) (by omega)) ?_
        exact ⟨(i + 1, xmate + 1, c), ⟨rfl, rfl, rfl, trivial⟩, ⟨⟨by omega, by rw [gre_take hxx, ← hg]; unfold greS; dsimp only; (repeat' split) <;> omega, by rw [gre_take hxx, ← hc]; unfold greS; dsimp only; (repeat' split) <;> omega⟩, H.pick [1, 2] 3 (by decide)⟩, (show l.length - (i + 1) < l.length - i by omega)⟩
    ·skip
     have hob : i = l.length := by omega
     obtain rfl := hob
     rw [List.take_length] at hg hc
     subst g
     subst c
     refine ⟨?_⟩
     refine BB.no (decide_eq_false (by omega)) ?_
     refine Cn.no ?_
     refine ⟨?_⟩
     have h1 := H.pick [1, 0] 2 (by decide)
     simp only [pk, nth, pkA, pkB, pkC, pkD, pkE, pkF] at h1
     refine Cl.sl (by kernel_rfl) (g_all_mate hR hll hw h1) fun w H => ?_
     replace H := H.pick [1, 0] 2 (by decide)
     simp only [pk, nth, pkA, pkB, pkC, pkD, pkE, pkF] at H
     refine BB.no (bne_self_eq_false _) ?_
     have h1 := H.pick [1, 0] 2 (by decide)
     simp only [pk, nth, pkA, pkB, pkC, pkD, pkE, pkF] at h1
     refine Cl.sl (by kernel_rfl) (g_all_chan hR hll hw h1) fun w H => ?_
     replace H := H.pick [1, 0] 2 (by decide)
     simp only [pk, nth, pkA, pkB, pkC, pkD, pkE, pkF] at H
     refine BB.no (bne_self_eq_false _) ?_
     refine Cn.no ?_
     refine ⟨?_⟩
     refine H.ldi 0 rfl (v := .int .i64 t) rfl ?_
     refine H.ldi 0 rfl (v := .int .i64 m) rfl ?_
     refine H.ldi 0 rfl (v := .slice pa X.length pc) rfl ?_
     refine H.ldi 0 rfl (v := .slice la pl.length lc) rfl ?_
     refine H.ldi 0 rfl (v := .slice da dr.length dc) rfl ?_
     have h1 := H.pick [1, 0] 2 (by decide)
     simp only [pk, nth, pkA, pkB, pkC, pkD, pkE, pkF] at h1
     refine Cl.sl (by kernel_rfl) (p_new_no hX hL hD hck h1) fun w H => ?_
     replace H := H.pick [1, 0] 2 (by decide)
     simp only [pk, nth, pkA, pkB, pkC, pkD, pkE, pkF] at H
     refine ⟨?_⟩
     refine BB.yes (bne_iff_ne.2 hck) ?_
     refine Cn.yes ?_
     refine ⟨?_⟩
     have h1 := H.pick [1, 0] 2 (by decide)
     simp only [pk, nth, pkA, pkB, pkC, pkD, pkE, pkF] at h1
     refine Cl.sl (by kernel_rfl) (l_exits hG h1) fun w H => ?_
     replace H := H.pick [1, 0] 2 (by decide)
     simp only [pk, nth, pkA, pkB, pkC, pkD, pkE, pkF] at H
     refine BB.yes rfl ?_
     refine ret1 (fn := Tryz.f6) (.bool true) rfl (by rfl) ?_
     exact ⟨rfl, H.pick [1] 2 (by decide)⟩
   ·skip
    refine Cn.yes ?_
    refine ⟨?_⟩
    have h1 := H.pick [1, 0] 2 (by decide)
    simp only [pk, nth, pkA, pkB, pkC, pkD, pkE, pkF] at h1
    refine Cl.sl (by kernel_rfl) (l_exits hG h1) fun w H => ?_
    replace H := H.pick [1, 0] 2 (by decide)
    simp only [pk, nth, pkA, pkB, pkC, pkD, pkE, pkF] at H
    refine BB.yes rfl ?_
    refine ret1 (fn := Tryz.f6) (.bool true) rfl (by rfl) ?_
    exact ⟨rfl, H.pick [1] 2 (by decide)⟩
theorem gaugeCounts_walk {w : World} {u v : Value} {l : List Ev} {s : ScrX} (z : EvInW w u l) (y : ScrIn w v s) (hs : Spans w) : Calls Tryz.prog 6 #[u, v] w fun e w' => e = .returned (.bool true) ∧ Frm Nil w w' := by
 have hv := y.val
 subst hv
 obtain ⟨⟨a, cap, rfl, hc, hr⟩, hw⟩ := z
 refine (l_counts (F := []) (fun h => Old.scr y.progs h) (Old.rd y.plan) (Old.rd y.draws) (Old.rd hr) hw (fun w' hw => hs.later (SL.old hw)) (SL.start w)).mono ?_
 rintro e w' ⟨rfl, H⟩
 exact ⟨rfl, H.old⟩
end Go.Proofs.YtchkaaeoffmjnaaGreatDoor
