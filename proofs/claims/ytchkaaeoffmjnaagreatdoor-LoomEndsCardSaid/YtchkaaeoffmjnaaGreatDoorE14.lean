/- Texts of the proof, several in one file: LawB, Loom13, LawC, LoomX8, LoomX9, LoomX11, GaugeP, GaugeQ, GaugeR. -/
import Derived.Test.YtchkaaeoffmjnaaGreatDoorE13
import Derived.Test.YtchkaaeoffmjnaaGreatDoorE03
namespace Go.Proofs.YtchkaaeoffmjnaaGreatDoor
set_option linter.unusedVariables false
set_option linter.unusedSimpArgs false
open Go.RowKit
set_option maxRecDepth 100000
def hop (k a b : Int) : OpX := ⟨⟨k, a, b, [], false⟩, none, 0⟩
def handX (b7 b9 : Nat) : List ProgX := [⟨[hop 2 0 0, hop 1 1 0, hop 4 0 0], some ⟨b7, 0, none⟩, 3⟩, ⟨[hop 3 0 5], some ⟨b9, 0, none⟩, 1⟩]
def handS : ScrM := ⟨9, 9, [[⟨2, 0, 0, [], false⟩, ⟨1, 1, 0, [], false⟩, ⟨4, 0, 0, [], false⟩], [⟨3, 0, 5, [], false⟩]], [0, 0, 0, 0], []⟩
def handE : List Ev := [⟨2, 0, 0, -1, 0, -1, false, false⟩, ⟨1, 0, -1, -1, 1, 1, false, false⟩, ⟨6, 0, 0, -1, 0, -1, false, false⟩, ⟨3, 1, 0, -1, 5, 0, true, false⟩, ⟨7, 0, 0, -1, 5, 1, false, true⟩]
theorem hands_ver : verL handS (runL handS 5) = 4 := by kernel_rfl
theorem hands_tr : (runL handS 5).tr = handE := by kernel_rfl
section
variable {b7 b9 b10 b11 : Nat}
theorem row_on {S : Nat → Prop} {w : World} {b t : Nat} {cs : Array Value} (h : (row b cs t).on S w) {o : Nat} {v : Value} (hv : cs[o]? = some v) : w.cell? ⟨b, o, none⟩ = some v := row_cell h.2 o hv
theorem rd_none {w : World} {sz : Nat} : Rd w sz none 0 [] := ⟨by simp, Nat.zero_le _, fun h => absurd h (Nat.lt_irrefl 0)⟩
theorem hands_draws : Reader (all [row b10 #[.slice (some ⟨b7, 0, none⟩) 3 3, .slice (some ⟨b9, 0, none⟩) 1 1] 67, row b7 #[.int .i64 2, .int .i64 0, .int .i64 0, .slice none 0 0, .bool false, .int .i64 1, .int .i64 1, .int .i64 0, .slice none 0 0, .bool false, .int .i64 4, .int .i64 0, .int .i64 0, .slice none 0 0, .bool false] 66, row b9 #[.int .i64 3, .int .i64 0, .int .i64 5, .slice none 0 0, .bool false] 66, row b11 #[.int .i64 0, .int .i64 0, .int .i64 0, .int .i64 0] 3]) 1 none ([] : List Int).length (ints []) := fun _ _ _ => rd_none
theorem hands_plan : Reader (all [row b10 #[.slice (some ⟨b7, 0, none⟩) 3 3, .slice (some ⟨b9, 0, none⟩) 1 1] 67, row b7 #[.int .i64 2, .int .i64 0, .int .i64 0, .slice none 0 0, .bool false, .int .i64 1, .int .i64 1, .int .i64 0, .slice none 0 0, .bool false, .int .i64 4, .int .i64 0, .int .i64 0, .slice none 0 0, .bool false] 66, row b9 #[.int .i64 3, .int .i64 0, .int .i64 5, .slice none 0 0, .bool false] 66, row b11 #[.int .i64 0, .int .i64 0, .int .i64 0, .int .i64 0] 3]) 1 (some ⟨b11, 0, none⟩) ([0, 0, 0, 0] : List Int).length (ints [0, 0, 0, 0]) := by
 intro S w h
 obtain ⟨T, _, hT⟩ := SLs.at 3 h rfl
 refine ⟨rfl, by decide, fun _ => ⟨b11, 0, rfl, fun i u hu => row_on hT (by rw [Nat.zero_add]; simpa [ints] using hu)⟩⟩
theorem hands_scr : ScrA (all [row b10 #[.slice (some ⟨b7, 0, none⟩) 3 3, .slice (some ⟨b9, 0, none⟩) 1 1] 67, row b7 #[.int .i64 2, .int .i64 0, .int .i64 0, .slice none 0 0, .bool false, .int .i64 1, .int .i64 1, .int .i64 0, .slice none 0 0, .bool false, .int .i64 4, .int .i64 0, .int .i64 0, .slice none 0 0, .bool false] 66, row b9 #[.int .i64 3, .int .i64 0, .int .i64 5, .slice none 0 0, .bool false] 66, row b11 #[.int .i64 0, .int .i64 0, .int .i64 0, .int .i64 0] 3]) b10 0 (handX b7 b9) where
 prog := by
  intro S w h k p hk
  obtain ⟨T, _, hT⟩ := SLs.at 0 h rfl
  match k, hk with
  | 0, hk => injection hk with hk; subst hk; exact row_on hT rfl
  | 1, hk => injection hk with hk; subst hk; exact row_on hT rfl
 some_ := by
  intro k p hk _
  match k, hk with
  | 0, hk => injection hk with hk; subst hk; exact ⟨_, _, rfl⟩
  | 1, hk => injection hk with hk; subst hk; exact ⟨_, _, rfl⟩
 op := by
  intro S w h k p hk b2 o2 hpa j o hj i v hv
  match k, hk with
  | 0, hk =>
   obtain ⟨T, _, hT⟩ := SLs.at 1 h rfl
   injection hk with hk; subst hk
   injection hpa with hpa
   injection hpa with e1 e2
   subst e1 e2
   match j, hj with
   | 0, hj => injection hj with hj; subst hj; match i, hv with | 0, hv | 1, hv | 2, hv | 3, hv | 4, hv => exact row_on hT hv
   | 1, hj => injection hj with hj; subst hj; match i, hv with | 0, hv | 1, hv | 2, hv | 3, hv | 4, hv => exact row_on hT hv
   | 2, hj => injection hj with hj; subst hj; match i, hv with | 0, hv | 1, hv | 2, hv | 3, hv | 4, hv => exact row_on hT hv
  | 1, hk =>
   obtain ⟨T, _, hT⟩ := SLs.at 2 h rfl
   injection hk with hk; subst hk
   injection hpa with hpa
   injection hpa with e1 e2
   subst e1 e2
   match j, hj with
   | 0, hj => injection hj with hj; subst hj; match i, hv with | 0, hv | 1, hv | 2, hv | 3, hv | 4, hv => exact row_on hT hv
 cap := by
  intro k p hk
  match k, hk with
  | 0, hk => injection hk with hk; subst hk; exact Nat.le_refl 3
  | 1, hk => injection hk with hk; subst hk; exact Nat.le_refl 1
 case := by
  intro k p hk j o hj
  match k, hk with
  | 0, hk =>
   injection hk with hk; subst hk
   match j, hj with
   | 0, hj => injection hj with hj; subst hj; exact ⟨fun _ _ _ => rd_none, Nat.le_refl 0⟩
   | 1, hj => injection hj with hj; subst hj; exact ⟨fun _ _ _ => rd_none, Nat.le_refl 0⟩
   | 2, hj => injection hj with hj; subst hj; exact ⟨fun _ _ _ => rd_none, Nat.le_refl 0⟩
  | 1, hk =>
   injection hk with hk; subst hk
   match j, hj with
   | 0, hj => injection hj with hj; subst hj; exact ⟨fun _ _ _ => rd_none, Nat.le_refl 0⟩
end
theorem l_handrun {b7 b9 b10 b11 : Nat} {w : World} {F : List Piece} (H : SL w (row b10 #[.slice (some ⟨b7, 0, none⟩) 3 3, .slice (some ⟨b9, 0, none⟩) 1 1] 67 :: row b7 #[.int .i64 2, .int .i64 0, .int .i64 0, .slice none 0 0, .bool false, .int .i64 1, .int .i64 1, .int .i64 0, .slice none 0 0, .bool false, .int .i64 4, .int .i64 0, .int .i64 0, .slice none 0 0, .bool false] 66 :: row b9 #[.int .i64 3, .int .i64 0, .int .i64 5, .slice none 0 0, .bool false] 66 :: row b11 #[.int .i64 0, .int .i64 0, .int .i64 0, .int .i64 0] 3 :: F)) : Calls Tryz.prog 19 #[.agg #[.int .i64 9, .int .i64 9, .slice (some ⟨b10, 0, none⟩) 2 2, .slice (some ⟨b11, 0, none⟩) 4 4, .slice none 0 0]] w fun o w' => ∃ tb kc, o = .returned (.tuple #[.slice (some ⟨tb, 0, none⟩) 5 kc, .int .i64 4]) ∧ SL w' (Slc 53 8 (.slice (some ⟨tb, 0, none⟩) 5 kc) 5 (handE.flatMap Ev.cells) :: F) := by
 have h2 : SL w ((all [row b10 #[.slice (some ⟨b7, 0, none⟩) 3 3, .slice (some ⟨b9, 0, none⟩) 1 1] 67, row b7 #[.int .i64 2, .int .i64 0, .int .i64 0, .slice none 0 0, .bool false, .int .i64 1, .int .i64 1, .int .i64 0, .slice none 0 0, .bool false, .int .i64 4, .int .i64 0, .int .i64 0, .slice none 0 0, .bool false] 66, row b9 #[.int .i64 3, .int .i64 0, .int .i64 5, .slice none 0 0, .bool false] 66, row b11 #[.int .i64 0, .int .i64 0, .int .i64 0, .int .i64 0] 3]) :: F) := SL.all.2 H
 have hrun := p_run (t := 9) (m := 9) (X := handX b7 b9) (pl := [0, 0, 0, 0]) (dr := []) (pc := 2) (lc := 4) (dc := 0) (fun _ => ⟨b10, 0, rfl, hands_scr⟩) hands_plan hands_draws (show checkE handS = 0 by decide) h2
 refine Calls.mono hrun ?_
 rintro o w' ⟨ka, kc, rfl, H'⟩
 have ev : verL ⟨9, 9, progsM (handX b7 b9), [0, 0, 0, 0], []⟩ (runL ⟨9, 9, progsM (handX b7 b9), [0, 0, 0, 0], []⟩ (([0, 0, 0, 0] : List Int).length + 1)) = 4 := hands_ver
 have et : (runL ⟨9, 9, progsM (handX b7 b9), [0, 0, 0, 0], []⟩ (([0, 0, 0, 0] : List Int).length + 1)).tr = handE := hands_tr
 rw [et] at H'
 rw [et, ev]
 obtain ⟨tb, rfl⟩ := SL.slcAddr H' (by decide)
 exact ⟨tb, kc, rfl, H'.pick [0] 2 (by decide)⟩
set_option maxHeartbeats 2000000 in
theorem l_hands {w : World} {F : List Piece} (H : SL w F) : Calls Tryz.prog 18 #[] w fun o w' => o = .returned (.bool true) ∧ SL w' F := by
 refine calls_den (args := []) Tryz.func18 rfl (Nat.le_of_ble_eq_true (by kernel_rfl)) (by kernel_rfl) ?_
 refine ⟨?_⟩
 refine ⟨?_⟩
 refine Mn.pure (.agg #[.int .i64 2, .int .i64 0, .int .i64 0, .slice none 0 0, .bool false]) (by kernel_rfl) ?_
 refine Mn.pure (.agg #[.int .i64 1, .int .i64 1, .int .i64 0, .slice none 0 0, .bool false]) (by kernel_rfl) ?_
 refine Mn.pure (.agg #[.int .i64 4, .int .i64 0, .int .i64 0, .slice none 0 0, .bool false]) (by kernel_rfl) ?_
 refine Mn.new (fun b => .slice (some ⟨b, 0, none⟩) 3 3) #[.int .i64 2, .int .i64 0, .int .i64 0, .slice none 0 0, .bool false, .int .i64 1, .int .i64 1, .int .i64 0, .slice none 0 0, .bool false, .int .i64 4, .int .i64 0, .int .i64 0, .slice none 0 0, .bool false] 66 (by kernel_rfl) H fun b7 w H => ?_
 refine Mn.pure (.agg #[.int .i64 3, .int .i64 0, .int .i64 5, .slice none 0 0, .bool false]) (by kernel_rfl) ?_
 refine Mn.new (fun b => .slice (some ⟨b, 0, none⟩) 1 1) #[.int .i64 3, .int .i64 0, .int .i64 5, .slice none 0 0, .bool false] 66 (by kernel_rfl) H fun b9 w H => ?_
 refine Mn.new (fun b => .slice (some ⟨b, 0, none⟩) 2 2) #[.slice (some ⟨b7, 0, none⟩) 3 3, .slice (some ⟨b9, 0, none⟩) 1 1] 67 (by kernel_rfl) H fun b10 w H => ?_
 refine Mn.new (fun b => .slice (some ⟨b, 0, none⟩) 4 4) #[.int .i64 0, .int .i64 0, .int .i64 0, .int .i64 0] 3 (by kernel_rfl) H fun b11 w H => ?_
 refine Mn.pure (.agg #[.int .i64 9, .int .i64 9, .slice (some ⟨b10, 0, none⟩) 2 2, .slice (some ⟨b11, 0, none⟩) 4 4, .slice none 0 0]) (by kernel_rfl) ?_
 have h1 := H.pick [1, 3, 2, 0] 4 (by decide)
 simp only [pk, nth, pkA, pkB, pkC, pkD, pkE, pkF] at h1
 refine Cl.by (by kernel_rfl) (l_handrun h1) ?_
 rintro _ w ⟨tb, kc, rfl, H⟩
 refine ⟨_, rfl, ?_⟩
 refine ⟨?_⟩
 refine BB.yes rfl ?_
 refine BB.yes rfl ?_
 refine Ix.at0 2 8 (by kernel_rfl) rfl (by decide) ?_
 refine H.ldS 0 rfl (v := .int .i64 6) (rfl) ?_
 refine BB.yes rfl ?_
 refine Ix.at0 3 8 (by kernel_rfl) rfl (by decide) ?_
 refine H.ldS 0 rfl (v := .int .i64 3) (rfl) ?_
 refine BB.yes rfl ?_
 refine Ix.at0 3 8 (by kernel_rfl) rfl (by decide) ?_
 refine H.ldS 0 rfl (v := .int .i64 0) (rfl) ?_
 refine BB.yes rfl ?_
 refine Ix.at0 4 8 (by kernel_rfl) rfl (by decide) ?_
 refine H.ldS 0 rfl (v := .int .i64 7) (rfl) ?_
 refine BB.yes rfl ?_
 refine Ix.at0 4 8 (by kernel_rfl) rfl (by decide) ?_
 refine H.ldS 0 rfl (v := .int .i64 5) (rfl) ?_
 refine BB.yes rfl ?_
 refine ret1 (fn := Tryz.f18) (.bool true) rfl (by rfl) ?_
 exact ⟨rfl, H.tl⟩
end Go.Proofs.YtchkaaeoffmjnaaGreatDoor
namespace Go.Proofs.YtchkaaeoffmjnaaGreatDoor
set_option linter.unusedVariables false
set_option linter.unusedSimpArgs false
open Go.RowKit
set_option maxRecDepth 100000
end Go.Proofs.YtchkaaeoffmjnaaGreatDoor
namespace Go.Proofs.YtchkaaeoffmjnaaGreatDoor
set_option linter.unusedVariables false
set_option linter.unusedSimpArgs false
open Go.RowKit
set_option maxRecDepth 100000
theorem run_len {t m : Int} {X : List ProgX} {pl dr : List Int} (hck : checkE ⟨t, m, progsM X, pl, dr⟩ = 0) : (runL ⟨t, m, progsM X, pl, dr⟩ (pl.length + 1)).tr.length ≤ 1000000 := by
 have hr := checkE_right hck
 have hn1 : 1 ≤ X.length := by have := hr.n1; simpa [progsM] using this
 have hpl : pl.length ≤ 200 := hr.pl
 have := (Lk.run (s := ⟨t, m, progsM X, pl, dr⟩) hr.ok (np := X.length) (by unfold progsM; rw [List.length_map]) hn1 (pl.length + 1)).tr
 omega
end Go.Proofs.YtchkaaeoffmjnaaGreatDoor
namespace Go.Proofs.YtchkaaeoffmjnaaGreatDoor
set_option linter.unusedVariables false
set_option linter.unusedSimpArgs false
open Go.RowKit
theorem run_p {s : ScrM} : ∀ {i : Nat}, verL s (runL s i) = 0 → (runL s i).p = i
 | 0, _ => rfl
 | i + 1, h => by
  by_cases hv : verL s (runL s i) = 0
  ·show (stepL s (runL s i)).p = i + 1
   rw [step_p hv, run_p hv]
  ·exfalso
   have e : runL s (i + 1) = runL s i := step_stop hv
   rw [e] at h
   exact hv h
theorem run_over (s : ScrM) : verL s (runL s (s.plan.length + 1)) ≠ 0 := by
 intro h
 have h1 := run_p h
 obtain ⟨_, _, h2⟩ := ver_zero h
 omega
section
variable {A : Piece} {sz n m : Nat} {a : Option Addr} {xs : List Value}
theorem Reader.take (h : Reader A sz a n xs) (hm : m ≤ n) : Reader A sz a m (xs.take (m * sz)) := by
 intro S w hS
 obtain ⟨h1, h2, h3⟩ := h S w hS
 refine ⟨?_, by omega, fun h0 => ?_⟩
 ·rw [List.length_take, h1]
  exact Nat.min_eq_left (Nat.mul_le_mul_right sz hm)
 ·obtain ⟨b, off, ha, hc⟩ := h3 (by omega)
  refine ⟨b, off, ha, fun i u hu => hc i u ?_⟩
  rw [List.getElem?_take] at hu
  split at hu
  ·exact hu
  ·cases hu
end
end Go.Proofs.YtchkaaeoffmjnaaGreatDoor
namespace Go.Proofs.YtchkaaeoffmjnaaGreatDoor
set_option linter.unusedVariables false
set_option linter.unusedSimpArgs false
open Go.RowKit
def inE (c : Int) (e : Ev) : Bool := e.chan == c && (e.kind == 3 || (e.kind == 7 && e.send))
def outE (c : Int) (e : Ev) : Bool := e.chan == c && ((e.kind == 4 && e.ok) || (e.kind == 7 && !e.send && e.ok))
def insV (c : Int) (tr : List Ev) : List Int := (tr.filter (inE c)).map (·.value)
def outsV (c : Int) (tr : List Ev) : List Int := (tr.filter (outE c)).map (·.value)
def bufC (M : List PipeM) (c : Nat) : List Int := (M.getD c (emptyM 0)).buf
def Val (x : LmM) : Prop := ∀ c : Nat, insV c x.tr = outsV c x.tr ++ bufC x.M c
theorem insV_snoc (c : Int) (tr : List Ev) (e : Ev) : insV c (tr ++ [e]) = insV c tr ++ (if inE c e = true then [e.value] else []) := by
 unfold insV
 rw [List.filter_append, List.map_append]
 cases h : inE c e <;> simp [h]
theorem outsV_snoc (c : Int) (tr : List Ev) (e : Ev) : outsV c (tr ++ [e]) = outsV c tr ++ (if outE c e = true then [e.value] else []) := by
 unfold outsV
 rw [List.filter_append, List.map_append]
 cases h : outE c e <;> simp [h]
def Calm (e : Ev) : Prop := ∀ c : Nat, inE c e = false ∧ outE c e = false
theorem calm_kind {e : Ev} (h3 : e.kind ≠ 3) (h4 : e.kind ≠ 4) (h7 : e.kind ≠ 7) : Calm e := fun c => by
 unfold inE outE
 simp [h3, h4, h7]
theorem calm_wake {e : Ev} (h3 : e.kind = 7) (hs : e.send = false) (ho : e.ok = false) : Calm e := fun c => by
 unfold inE outE
 simp [h3, hs, ho]
section
variable {x : LmM} {M' : List PipeM}
theorem Val.calm (h : Val x) {e : Ev} (he : Calm e) (hb : ∀ c, bufC M' c = bufC x.M c) : Val { noteL x e with M := M' } := fun c => by
 show insV c (x.tr ++ [e]) = outsV c (x.tr ++ [e]) ++ bufC M' c
 rw [insV_snoc, outsV_snoc, if_neg (by rw [(he c).1]; exact Bool.false_ne_true), if_neg (by rw [(he c).2]; exact Bool.false_ne_true), List.append_nil, List.append_nil, hb]
 exact h c
theorem Val.setM (h : Val x) (hb : ∀ c, bufC M' c = bufC x.M c) : Val { x with M := M' } := fun c => by
 show insV c x.tr = outsV c x.tr ++ bufC M' c
 rw [hb]
 exact h c
theorem Val.note (h : Val x) {e : Ev} (he : Calm e) : Val (noteL x e) := h.calm (M' := x.M) he (fun _ => rfl)
end
theorem buf_map (M : List PipeM) (f : PipeM → PipeM) (hf : ∀ y, (f y).buf = y.buf) (c : Nat) : bufC (M.map f) c = bufC M c := by
 unfold bufC
 rw [List.getD_eq_getElem?_getD, List.getD_eq_getElem?_getD, List.getElem?_map]
 cases M[c]? with
 | none => rfl
 | some y => exact hf y
theorem buf_set (M : List PipeM) (i : Nat) (y : PipeM) (hy : y.buf = bufC M i) (c : Nat) : bufC (M.set i y) c = bufC M c := by
 unfold bufC at hy ⊢
 rw [List.getD_eq_getElem?_getD, List.getD_eq_getElem?_getD, List.getElem?_set]
 by_cases h : i = c
 ·subst h
  rw [if_pos rfl]
  split
  ·rw [List.getD_eq_getElem?_getD] at hy
   exact hy
  ·rename_i hh
   rw [List.getElem?_eq_none (by omega)]
 ·rw [if_neg h]
theorem drop_buf (y : PipeM) (g : Int) : (dropM y g).buf = y.buf := rfl
theorem wait_buf (y : PipeM) (s : Bool) (m : Wtr) : (waitF y s m).2.buf = y.buf := by
 unfold waitF
 split
 ·rfl
 ·split <;> rfl
theorem close_buf (y : PipeM) : (closeF y).2.buf = y.buf := by
 unfold closeF
 split <;> rfl
theorem Val.wake {x : LmM} (h : Val x) {e : Ev} (he : Calm e) : Val (wakeL x e) := h.calm he (fun c => buf_map _ _ (fun y => drop_buf y _) c)
theorem Val.wakes {x : LmM} (h : Val x) (g ch : Int) : ∀ ws : List Wtr, Val (wakesL x g ch ws) := by
 intro ws
 induction ws generalizing x with
 | nil => exact h
 | cons w ws ih =>
  unfold wakesL
  split
  ·exact ih (h.wake (calm_wake rfl rfl rfl))
  ·exact ih h
theorem Val.panic {x : LmM} (h : Val x) (g : Int) : Val (panicL x g) := h.note (e := bareE 12 g) (calm_kind (show (12 : Int) ≠ 3 by decide) (show (12 : Int) ≠ 4 by decide) (show (12 : Int) ≠ 7 by decide))
theorem Val.senders {x : LmM} (h : Val x) : ∀ ws : List Wtr, Val (sendersL x ws) := by
 intro ws
 induction ws with
 | nil => exact h
 | cons w ws ih =>
  unfold sendersL
  split
  ·exact h.panic _
  ·exact ih
theorem backN_off : ∀ (ns : List Int) (ys M : List PipeM) (c : Nat), (∀ n ∈ ns, n ≠ (c : Int)) → (backN ns ys M)[c]? = M[c]?
 | [], _, _, _, _ => by unfold backN; rfl
 | n :: ns, [], _, _, _ => by unfold backN; rfl
 | n :: ns, y :: ys, M, c, h => by
  unfold backN
  rw [backN_off ns ys _ c (fun m hm => h m (List.mem_cons_of_mem _ hm))]
  split
  ·rename_i h0
   have := h n List.mem_cons_self
   rw [List.getElem?_set, if_neg (by omega)]
  ·rfl
theorem backN_on : ∀ (ns : List Int) (ys M : List PipeM) (k c : Nat) (y : PipeM), ns.Pairwise (fun a b => 0 ≤ a → a ≠ b) → ns[k]? = some (c : Int) → ys[k]? = some y → c < M.length → (backN ns ys M)[c]? = some y
 | [], _, _, _, _, _, _, h, _, _ => by simp at h
 | n :: ns, [], _, _, _, _, _, _, h, _ => by simp at h
 | n :: ns, z :: ys, M, 0, c, y, hp, hn, hy, hc => by
  simp at hn hy
  subst hn hy
  unfold backN
  rw [backN_off ns ys _ c (fun m hm => Ne.symm ((List.pairwise_cons.1 hp).1 m hm (Int.natCast_nonneg _))), if_pos (Int.natCast_nonneg _), Int.toNat_natCast, List.getElem?_set, if_pos rfl, if_pos hc]
 | n :: ns, z :: ys, M, k + 1, c, y, hp, hn, hy, hc => by
  simp at hn hy
  unfold backN
  exact backN_on ns ys _ k c y (List.pairwise_cons.1 hp).2 hn hy (by split <;> simp [hc])
/-- What the buffers are behind it. -/
theorem backN_buf {np k : Nat} {x : LmM} (hk : Lk np k x) (ys : List PipeM) (c : Nat) (Q : List Int) (hon : ∀ j : Nat, j < 8 → numL x (j : Int) = (c : Int) → ∃ y, ys[j]? = some y ∧ y.buf = Q) (hoff : (∀ j : Nat, j < 8 → numL x (j : Int) ≠ (c : Int)) → bufC x.M c = Q) : bufC (backN x.name ys x.M) c = Q := by
 by_cases h : ∃ j : Nat, j < 8 ∧ numL x (j : Int) = (c : Int)
 ·obtain ⟨j, hj, hjc⟩ := h
  obtain ⟨y, hy, hq⟩ := hon j hj hjc
  have hj' : j < x.name.length := by rw [hk.n8]; exact hj
  have hlt : c < x.M.length := by have := num_lt hk hj; rw [hjc] at this; omega
  have hn : x.name[j]? = some (c : Int) := by rw [List.getElem?_eq_getElem hj', ← numL_get hj', hjc]
  unfold bufC
  rw [List.getD_eq_getElem?_getD, backN_on x.name ys x.M j c y hk.nm.ne hn hy hlt]
  exact hq
 ·have h' : ∀ j : Nat, j < 8 → numL x (j : Int) ≠ (c : Int) := fun j hj e => h ⟨j, hj, e⟩
  unfold bufC
  rw [List.getD_eq_getElem?_getD, backN_off x.name ys x.M c (fun n hn => ?_), ← List.getD_eq_getElem?_getD]
  ·exact hoff h'
  ·obtain ⟨j, hj, rfl⟩ := List.getElem_of_mem hn
   have := h' j (by rw [← hk.n8]; exact hj)
   rw [numL_get hj] at this
   exact this
theorem pipesN_get {np k : Nat} {x : LmM} (hk : Lk np k x) {j : Nat} (hj : j < 8) : (pipesN x)[j]? = some (if 0 ≤ numL x (j : Int) then x.M.getD (numL x (j : Int)).toNat (emptyM 0) else emptyM 0) := by
 have := msN_at hk hj
 rw [← pipesN_eq] at this
 exact this
theorem num_one {np k : Nat} {x : LmM} (hk : Lk np k x) {i j : Nat} (hi : i < 8) (hj : j < 8) (h0 : 0 ≤ numL x (i : Int)) (he : numL x (i : Int) = numL x (j : Int)) : i = j := by
 have hi' : i < x.name.length := by rw [hk.n8]; exact hi
 have hj' : j < x.name.length := by rw [hk.n8]; exact hj
 rw [numL_get hi'] at h0
 rw [numL_get hi', numL_get hj'] at he
 rcases Nat.lt_trichotomy i j with h | h | h
 ·exact absurd he (List.pairwise_iff_getElem.1 hk.nm.ne i j hi' hj' h h0)
 ·exact h
 ·exact absurd he.symm (List.pairwise_iff_getElem.1 hk.nm.ne j i hj' hi' h (by rw [← he]; exact h0))
theorem park_bufs (ok : List Bool) (g : Int) (L : List CaseM) (M : List PipeM) (c : Nat) : ∀ k, bufC (parkK ok g L M k).2 c = bufC M c
 | 0 => rfl
 | k + 1 => by
  unfold parkK
  split
  ·exact park_bufs ok g L M c k
  ·dsimp only
   rw [buf_set _ _ _ (wait_buf _ _ _), park_bufs ok g L M c k]
theorem parkF_bufs (ok : List Bool) (g : Int) (L : List CaseM) (M : List PipeM) (c : Nat) : bufC (parkF ok g L M).2 c = bufC M c := by
 unfold parkF
 split
 ·rfl
 ·split
  ·rfl
  ·exact park_bufs ok g L M c _
theorem bufC_at {M : List PipeM} {c : Nat} {y : PipeM} (h : M[c]? = some y) : y.buf = bufC M c := by
 unfold bufC
 rw [List.getD_eq_getElem?_getD, h]
 rfl
theorem pipesN_buf {np k : Nat} {x : LmM} (hk : Lk np k x) {j c : Nat} (hj : j < 8) (hc : numL x (j : Int) = (c : Int)) : bufC (pipesN x) j = bufC x.M c := by
 have := pipesN_get hk hj
 rw [hc, if_pos (Int.natCast_nonneg c), Int.toNat_natCast] at this
 rw [← bufC_at this]
 rfl
theorem Val.park {np k : Nat} {x : LmM} (hk : Lk np k x) (h : Val x) (g : Int) (L : List CaseM) : Val { x with M := backN x.name (parkF (okN x) g L (pipesN x)).2 x.M } := by
 refine h.setM (fun c => ?_)
 refine backN_buf hk _ c _ (fun j hj hjc => ?_) (fun _ => rfl)
 have hl : j < (parkF (okN x) g L (pipesN x)).2.length := by rw [parkF_len, hk.pipes_len]; exact hj
 refine ⟨(parkF (okN x) g L (pipesN x)).2[j], List.getElem?_eq_getElem hl, ?_⟩
 rw [bufC_at (List.getElem?_eq_getElem hl), parkF_bufs, pipesN_buf hk hj hjc]
theorem Val.talk {np k : Nat} {x : LmM} (hk : Lk np k x) (h : Val x) {g : Int} {c : CaseM} {a : Int} (hc : 0 ≤ c.chan ∧ c.chan < 8) (hr : readyC (okN x) (pipesN x) c = true) : Val (talkL x g c a) := by
 obtain ⟨s, ch, v⟩ := c
 dsimp only at hc
 obtain ⟨j, rfl⟩ := Int.eq_ofNat_of_zero_le hc.1
 have hj : j < 8 := by omega
 rw [readyC_num hk hj] at hr
 by_cases h0 : 0 ≤ numL x (j : Int)
 ·rw [if_pos h0] at hr
  obtain ⟨i, hi⟩ := Int.eq_ofNat_of_zero_le h0
  have hpos : posF (okN x) (j : Int) = some j := by rw [posF_num hk hj, if_pos h0]
  have hgd : (pipesN x).getD j (emptyM 0) = x.M.getD i (emptyM 0) := by rw [pipesN_at hk hj, if_pos h0, hi, Int.toNat_natCast]
  rw [hi, Int.toNat_natCast] at hr
  obtain ⟨p, hp⟩ : ∃ p, x.M.getD i (emptyM 0) = p := ⟨_, rfl⟩
  have hil : i < x.M.length := by have := num_lt hk hj; omega
  have hI : Inv9 k p := by rw [← hp]; exact hk.inv.get hil
  have hbi : bufC x.M i = p.buf := by unfold bufC; rw [hp]
  rw [hp] at hgd hr
  have hlen : j < (pipesN x).length := by rw [hk.pipes_len]; exact hj
  have key : ∀ (y : PipeM) (c' : Nat), bufC (backN x.name ((pipesN x).set j y) x.M) c' = if c' = i then y.buf else bufC x.M c' := by
   intro y c'
   refine backN_buf hk _ c' _ (fun j' hj' hjc => ?_) (fun hno => ?_)
   ·by_cases e : j' = j
    ·subst e
     refine ⟨y, by rw [List.getElem?_set, if_pos rfl, if_pos hlen], ?_⟩
     rw [if_pos (by omega)]
    ·refine ⟨_, by rw [List.getElem?_set, if_neg (Ne.symm e)]; exact pipesN_get hk hj', ?_⟩
     have hne : c' ≠ i := fun e' => e (num_one hk hj' hj (by omega) (by omega))
     rw [if_neg hne, hjc, if_pos (Int.natCast_nonneg _), Int.toNat_natCast]
     rfl
   ·rw [if_neg (fun e => hno j hj (by omega))]
  -- what each channel has, by one or two events
  have one : ∀ (y : PipeM) (e : Ev) (z : LmM), z.tr = x.tr ++ [e] → z.M = backN x.name ((pipesN x).set j y) x.M → (e.chan = (i : Int)) → (insV i x.tr ++ (if inE i e = true then [e.value] else []) = (outsV i x.tr ++ (if outE i e = true then [e.value] else [])) ++ y.buf) → Val z := by
   intro y e z ht hM hch hv c'
   rw [ht, hM, insV_snoc, outsV_snoc, key]
   by_cases e' : c' = i
   ·subst e'
    rw [if_pos rfl]
    exact hv
   ·have hn : (e.chan == (c' : Int)) = false := by rw [hch]; exact beq_eq_false_iff_ne.2 (by omega)
    rw [if_neg e', if_neg (by unfold inE; rw [hn]; simp), if_neg (by unfold outE; rw [hn]; simp), List.append_nil, List.append_nil]
    exact h c'
  have two : ∀ (y : PipeM) (e f : Ev) (z : LmM), z.tr = x.tr ++ [e] ++ [f] → (∀ c', bufC z.M c' = bufC (backN x.name ((pipesN x).set j y) x.M) c') → e.chan = (i : Int) → f.chan = (i : Int) → (insV i x.tr ++ (if inE i e = true then [e.value] else []) ++ (if inE i f = true then [f.value] else []) = (outsV i x.tr ++ (if outE i e = true then [e.value] else []) ++ (if outE i f = true then [f.value] else [])) ++ y.buf) → Val z := by
   intro y e f z ht hM hce hcf hv c'
   rw [ht, hM, insV_snoc, insV_snoc, outsV_snoc, outsV_snoc, key]
   by_cases e' : c' = i
   ·subst e'
    rw [if_pos rfl]
    exact hv
   ·have hn : (e.chan == (c' : Int)) = false := by rw [hce]; exact beq_eq_false_iff_ne.2 (by omega)
    have hm : (f.chan == (c' : Int)) = false := by rw [hcf]; exact beq_eq_false_iff_ne.2 (by omega)
    rw [if_neg e', if_neg (by unfold inE; rw [hn]; simp), if_neg (by unfold inE; rw [hm]; simp), if_neg (by unfold outE; rw [hn]; simp), if_neg (by unfold outE; rw [hm]; simp)]
    simp only [List.append_nil]
    exact h c'
  have hx := h i
  rw [hbi] at hx
  have hdrop : ∀ (M : List PipeM) (g' : Int) (c' : Nat), bufC (M.map (fun y => dropM y g')) c' = bufC M c' := fun M g' c' => buf_map _ _ (fun y => drop_buf y _) c'
  cases s with
  | true =>
   have hT : tryF (okN x) (pipesN x) ⟨true, (j : Int), v⟩ = ((sendF p v).1, (pipesN x).set j (sendF p v).2) := by
    unfold tryF
    dsimp only
    rw [hpos]
    dsimp only
    rw [if_pos rfl, hgd]
   unfold talkL
   rw [hT]
   unfold readyF at hr
   unfold sendF
   by_cases hcl : p.closed = true
   ·rw [if_pos hcl]
    dsimp only
    rw [if_pos (by decide)]
    refine Val.panic (h.setM (fun c' => ?_)) g
    rw [key]
    split
    ·rename_i e; subst e; exact hbi.symm
    ·rfl
   ·rw [if_neg hcl]
    cases hrc : p.receivers with
    | cons m l =>
     dsimp only
     rw [if_neg (by decide), if_pos rfl]
     have hb : p.buf = [] := hI.re (by rw [hrc]; exact List.cons_ne_nil _ _)
     refine two _ _ _ _ rfl (fun c' => hdrop _ _ c') hi hi ?_
     rw [hx, hb]
     simp [inE, outE, hi]
    | nil =>
     dsimp only
     by_cases hlt : p.buf.length < p.size
     ·rw [if_pos hlt]
      dsimp only
      rw [if_neg (by decide), if_neg (by decide)]
      refine one _ _ _ rfl rfl hi ?_
      rw [hx]
      simp [inE, outE, hi]
     ·exfalso
      simp [hcl, hrc, hlt] at hr
  | false =>
   have hT : tryF (okN x) (pipesN x) ⟨false, (j : Int), v⟩ = (((recvF p).1, 0), (pipesN x).set j (recvF p).2) := by
    unfold tryF
    dsimp only
    rw [hpos]
    dsimp only
    rw [if_neg (by decide), hgd]
   unfold talkL
   rw [hT]
   unfold readyF at hr
   unfold recvF
   cases hb : p.buf with
   | cons b L =>
    cases hs : p.senders with
    | cons m l =>
     dsimp only
     rw [if_neg (by decide), if_pos rfl]
     refine two _ _ _ _ rfl (fun c' => hdrop _ _ c') hi hi ?_
     rw [hx, hb]
     simp [inE, outE, hi]
    | nil =>
     dsimp only
     rw [if_neg (by decide), if_neg (by decide)]
     refine one _ _ _ rfl rfl hi ?_
     rw [hx, hb]
     simp [inE, outE, hi]
   | nil =>
    cases hs : p.senders with
    | cons m l =>
     dsimp only
     rw [if_neg (by decide), if_pos rfl]
     refine two _ _ _ _ rfl (fun c' => hdrop _ _ c') hi hi ?_
     rw [hx, hb]
     simp [inE, outE, hi]
    | nil =>
     dsimp only
     cases hcl : p.closed with
     | true =>
      refine one _ _ _ rfl rfl hi ?_
      rw [hx, hb]
      simp [inE, outE, gzero, hb]
     | false =>
      exfalso
      simp [hcl, hs, hb] at hr
 ·rw [if_neg h0] at hr
  cases hr
theorem Val.turn {x : LmM} (h : Val x) (g fr to : Int) : Val (turnL x g fr to) := h
theorem Val.alone {np k : Nat} {x : LmM} (hk : Lk np k x) (h : Val x) {g : Int} {c : CaseM} (hc : 0 ≤ c.chan ∧ c.chan < 8) : Val (aloneL x g c) := by
 unfold aloneL
 split
 ·rename_i hr
  exact h.talk hk hc hr
 ·dsimp only
  refine Val.turn ?_ g 0 1
  split
  ·exact (h.note (calm_kind (show (6 : Int) ≠ 3 by decide) (show (6 : Int) ≠ 4 by decide) (show (6 : Int) ≠ 7 by decide))).setM (fun c' => buf_set _ _ _ (wait_buf _ _ _) c')
  ·exact h.note (calm_kind (show (6 : Int) ≠ 3 by decide) (show (6 : Int) ≠ 4 by decide) (show (6 : Int) ≠ 7 by decide))
theorem Val.shut {x : LmM} (h : Val x) (g c : Int) : Val (shutL x g c) := by
 unfold shutL
 dsimp only
 split
 ·exact h.panic g
 ·split
  ·exact h.panic g
  ·refine Val.senders (Val.wakes (Val.turn (Val.note ?_ ?_) g 0 0) g _ _) _
   ·exact h.setM (fun c' => buf_set _ _ _ (close_buf _) c')
   ·exact calm_kind (show (5 : Int) ≠ 3 by decide) (show (5 : Int) ≠ 4 by decide) (show (5 : Int) ≠ 7 by decide)
theorem ready_mem {ok : List Bool} {M : List PipeM} {L : List CaseM} {a : Int} (h : a ∈ readyL ok M L) : ∃ i : Nat, a = (i : Int) ∧ i < L.length ∧ readyC ok M (L.getD i ⟨false, 0, 0⟩) = true := by
 unfold readyL readyK at h
 obtain ⟨i, hi, rfl⟩ := List.mem_map.1 h
 obtain ⟨h1, h2⟩ := List.mem_filter.1 hi
 exact ⟨i, rfl, List.mem_range.1 h1, h2⟩
theorem draw_lt (s : ScrM) (x : LmM) {n : Nat} (h : 0 < n) : (drawL s x n).1 < n := by
 unfold drawL
 split
 ·exact h
 ·exact Nat.mod_lt _ h
theorem Val.choose {np k : Nat} {x : LmM} (hk : Lk np k x) (h : Val x) {g : Int} {o : OpM} (ho : OpOk np o) (s : ScrM) : Val (chooseL s x g o) := by
 unfold chooseL
 dsimp only
 split
 ·rename_i hl
  have hm := draw_lt s x hl
  rw [show (readyL (okN x) (pipesN x) o.cases).getD (drawL s x (readyL (okN x) (pipesN x) o.cases).length).1 0 = (readyL (okN x) (pipesN x) o.cases)[(drawL s x (readyL (okN x) (pipesN x) o.cases).length).1] from by rw [List.getD_eq_getElem?_getD, List.getElem?_eq_getElem hm]; rfl]
  obtain ⟨i, hi, hil, hr⟩ := ready_mem (List.getElem_mem hm)
  rw [hi, Int.toNat_natCast]
  have hch : 0 ≤ (o.cases.getD i ⟨false, 0, 0⟩).chan ∧ (o.cases.getD i ⟨false, 0, 0⟩).chan < 8 := by
   rw [List.getD_eq_getElem?_getD, List.getElem?_eq_getElem hil]
   exact ho.ch _ (List.getElem_mem hil)
  rw [drawL_I]
  exact Val.talk (x := { x with d := (drawI s.draws x.d (readyL (okN x) (pipesN x) o.cases).length).2 }) (hk.dd _) h hch hr
 ·split
  ·exact h.note (calm_kind (show (8 : Int) ≠ 3 by decide) (show (8 : Int) ≠ 4 by decide) (show (8 : Int) ≠ 7 by decide))
  ·exact Val.park (x := noteL x ⟨6, g, -1, (o.cases.length : Int), 0, -1, false, false⟩) (hk.note _) (h.note (calm_kind (show (6 : Int) ≠ 3 by decide) (show (6 : Int) ≠ 4 by decide) (show (6 : Int) ≠ 7 by decide))) g o.cases
theorem bufC_snoc (M : List PipeM) (y : PipeM) (hy : y.buf = []) (c : Nat) : bufC (M ++ [y]) c = bufC M c := by
 unfold bufC
 rw [List.getD_eq_getElem?_getD, List.getD_eq_getElem?_getD]
 rcases Nat.lt_trichotomy c M.length with h | h | h
 ·rw [List.getElem?_append_left h]
 ·subst h
  rw [List.getElem?_append_right (Nat.le_refl _), Nat.sub_self, List.getElem?_eq_none (Nat.le_refl _)]
  exact hy
 ·rw [List.getElem?_eq_none (by simp; omega), List.getElem?_eq_none (by omega)]
theorem Val.other {x : LmM} (h : Val x) (g : Int) (o : OpM) : Val (otherL x g o) := by
 unfold otherL
 split
 ·exact (show Val { x with crew := _ } from h).note (calm_kind (show (1 : Int) ≠ 3 by decide) (show (1 : Int) ≠ 4 by decide) (show (1 : Int) ≠ 7 by decide))
 ·split
  ·exact Val.note (x := { x with M := x.M ++ [emptyM o.b.toNat], name := x.name.set o.a.toNat x.M.length }) (h.setM (fun c' => bufC_snoc _ _ rfl c')) (calm_kind (show (2 : Int) ≠ 3 by decide) (show (2 : Int) ≠ 4 by decide) (show (2 : Int) ≠ 7 by decide))
  ·split
   ·exact h.note (calm_kind (show (9 : Int) ≠ 3 by decide) (show (9 : Int) ≠ 4 by decide) (show (9 : Int) ≠ 7 by decide))
   ·split
    ·exact h.note (calm_kind (show (10 : Int) ≠ 3 by decide) (show (10 : Int) ≠ 4 by decide) (show (10 : Int) ≠ 7 by decide))
    ·exact Val.note (h.turn g 0 2) (calm_kind (show (11 : Int) ≠ 3 by decide) (show (11 : Int) ≠ 4 by decide) (show (11 : Int) ≠ 7 by decide))
theorem Val.does {np k : Nat} {x : LmM} (hk : Lk np k x) (h : Val x) {g : Int} {o : OpM} (ho : OpOk np o) (s : ScrM) : Val (doesL s x g o) := by
 unfold doesL
 split
 ·exact h.alone hk ⟨ho.a0, ho.a1⟩
 ·split
  ·exact h.alone hk ⟨ho.a0, ho.a1⟩
  ·split
   ·exact h.shut g _
   ·split
    ·exact h.choose hk ho s
    ·exact h.other g o
theorem Val.step {np k : Nat} {s : ScrM} {x : LmM} (hk : Lk np k x) (h : Val x) (hs : ProgsOk s.progs) (hn : s.progs.length = np) (h1 : 1 ≤ np) : Val (stepL s x) := by
 unfold stepL
 split
 ·exact h
 ·split
  ·exact Val.note (x := { x with p := x.p + 1 }) h (calm_kind (show (13 : Int) ≠ 3 by decide) (show (13 : Int) ≠ 4 by decide) (show (13 : Int) ≠ 7 by decide))
  ·subst hn
   exact Val.does (x := { x with p := x.p + 1 }) (hk.pp (x.p + 1)) h (opL_ok hs h1 x _) s
theorem Val.run {np : Nat} {s : ScrM} (hs : ProgsOk s.progs) (hn : s.progs.length = np) (h1 : 1 ≤ np) : ∀ n, Val (runL s n)
 | 0 => fun c => rfl
 | n + 1 => (Val.run hs hn h1 n).step (Lk.run hs hn h1 n) hs hn h1
end Go.Proofs.YtchkaaeoffmjnaaGreatDoor
namespace Go.Proofs.YtchkaaeoffmjnaaGreatDoor
set_option linter.unusedVariables false
set_option linter.unusedSimpArgs false
open Go.RowKit
def GW (m : Wtr) : Prop := (0 ≤ m.g ∧ m.g ≤ 511) ∧ (-1 ≤ m.case_ ∧ m.case_ ≤ 3) ∧ 0 ≤ m.value ∧ m.value ≤ 99
structure RP (y : PipeM) : Prop where
 b : ∀ v ∈ y.buf, 0 ≤ v ∧ v ≤ 99
 w : ∀ a, a ∈ y.senders ∨ a ∈ y.receivers → GW a
def RM (M : List PipeM) : Prop := ∀ y ∈ M, RP y
theorem RP.empty (n : Nat) : RP (emptyM n) := ⟨fun v h => absurd h (by simp [emptyM]), fun a h => by simp [emptyM] at h⟩
section
variable {M ys : List PipeM} {y : PipeM} {m : Wtr} {x : LmM}
theorem RM.at_ (h : RM M) (i : Nat) : RP (M.getD i (emptyM 0)) := by
 rw [List.getD_eq_getElem?_getD]
 cases hm : M[i]? with
 | none => exact RP.empty 0
 | some u => exact h u (List.mem_of_getElem? hm)
theorem RM.set (h : RM M) (i : Nat) (hy : RP y) : RM (M.set i y) := by
 intro z hz
 rcases List.mem_or_eq_of_mem_set hz with hz | rfl
 ·exact h z hz
 ·exact hy
theorem without_in {g : Int} {L : List Wtr} {a : Wtr} (h : a ∈ without g L) : a ∈ L := by
 unfold without at h
 exact (List.mem_filter.1 h).1
theorem RP.drop (h : RP y) (g : Int) : RP (dropM y g) := ⟨h.b, fun a ha => h.w a (ha.imp without_in without_in)⟩
theorem RM.drop (h : RM M) (g : Int) : RM (M.map (fun y => dropM y g)) := by
 intro z hz
 obtain ⟨u, hu, rfl⟩ := List.mem_map.1 hz
 exact (h u hu).drop g
theorem RM.named (h : RM x.M) : RM (pipesN x) := by
 intro z hz
 unfold pipesN at hz
 obtain ⟨n, _, rfl⟩ := List.mem_map.1 hz
 split
 ·exact h.at_ _
 ·exact RP.empty 0
theorem RM.back : ∀ (ns : List Int) (ys M : List PipeM), RM ys → RM M → RM (backN ns ys M)
 | [], _, _, _, h => by unfold backN; exact h
 | n :: ns, [], _, _, h => by unfold backN; exact h
 | n :: ns, y :: ys, M, hy, h => by
  unfold backN
  refine RM.back ns ys _ (fun z hz => hy z (List.mem_cons_of_mem _ hz)) ?_
  split
  ·exact h.set _ (hy y List.mem_cons_self)
  ·exact h
theorem RP.wait (h : RP y) (s : Bool) (hm : GW m) : RP (waitF y s m).2 :=
 ⟨by rw [wait_buf]; exact h.b, fun a ha => (wait_wt y s m a ha).elim (h.w a) (fun e => by rw [e]; exact hm)⟩
theorem RP.close (h : RP y) : RP (closeF y).2 := by
 refine ⟨by rw [close_buf]; exact h.b, fun a ha => ?_⟩
 unfold closeF at ha
 split at ha
 ·exact h.w a ha
 ·simp at ha
theorem close_wts (h : RP y) : (∀ a ∈ (closeF y).1.1, GW a) ∧ ∀ a ∈ (closeF y).1.2.1, GW a := by
 unfold closeF
 split
 ·exact ⟨fun a ha => absurd ha List.not_mem_nil, fun a ha => absurd ha List.not_mem_nil⟩
 ·exact ⟨fun a ha => h.w a (.inr ha), fun a ha => h.w a (.inl ha)⟩
theorem RP.send (h : RP y) {v : Int} (hv : 0 ≤ v ∧ v ≤ 99) : RP (sendF y v).2 := by
 refine ⟨?_, fun a ha => h.w a (send_wt y v a ha)⟩
 unfold sendF
 split
 ·exact h.b
 ·split
  ·exact h.b
  ·split
   ·intro u hu
    rcases List.mem_append.1 hu with hu | hu
    ·exact h.b u hu
    ·rw [List.mem_singleton.1 hu]; exact hv
   ·exact h.b
theorem RP.recv (h : RP y) : RP (recvF y).2 := by
 refine ⟨?_, fun a ha => h.w a (recv_wt y a ha)⟩
 unfold recvF
 split
 ·rename_i b L m l hb hs
  intro u hu
  rcases List.mem_append.1 hu with hu | hu
  ·exact h.b u (by rw [hb]; exact List.mem_cons_of_mem _ hu)
  ·rw [List.mem_singleton.1 hu]
   exact (h.w m (.inl (by rw [hs]; exact List.mem_cons_self))).2.2
 ·rename_i b L hb hs
  intro u hu
  exact h.b u (by rw [hb]; exact List.mem_cons_of_mem _ hu)
 ·rename_i m l hb hs
  intro u hu
  exact h.b u hu
 ·split <;> exact h.b
theorem RM.try_ (h : RM M) (ok : List Bool) {c : CaseM} (hv : 0 ≤ c.value ∧ c.value ≤ 99) : RM (tryF ok M c).2 := by
 unfold tryF
 split
 ·exact h
 ·split
  ·exact h.set _ ((h.at_ _).send hv)
  ·exact h.set _ (h.at_ _).recv
/-- What is got. -/
theorem try_got (h : RM M) (ok : List Bool) (c : CaseM) : ((tryF ok M c).1.1.woke = true → GW (tryF ok M c).1.1.mate) ∧ (c.send = false → (0 ≤ (tryF ok M c).1.1.value ∧ (tryF ok M c).1.1.value ≤ 99) ∧ ((tryF ok M c).1.1.ok = false → (tryF ok M c).1.1.value = 0 ∧ (tryF ok M c).1.1.woke = false)) := by
 unfold tryF
 split
 ·simp [gzero]
 ·rename_i i hi
  have hh := h.at_ i
  split
  ·rename_i hs
   refine ⟨?_, fun h => by rw [hs] at h; cases h⟩
   unfold sendF
   split
   ·simp [gzero]
   ·split
    ·rename_i m l hr
     exact fun _ => hh.w m (.inr (by rw [hr]; exact List.mem_cons_self))
    ·split <;> simp [gzero]
  ·unfold recvF
   split
   ·rename_i b L m l hb hs
    exact ⟨fun _ => hh.w m (.inl (by rw [hs]; exact List.mem_cons_self)), fun _ => ⟨hh.b b (by rw [hb]; exact List.mem_cons_self), fun h => by cases h⟩⟩
   ·rename_i b L hb hs
    exact ⟨fun h => (by cases h), fun _ => ⟨hh.b b (by rw [hb]; exact List.mem_cons_self), fun h => by cases h⟩⟩
   ·rename_i m l hb hs
    have := hh.w m (.inl (by rw [hs]; exact List.mem_cons_self))
    exact ⟨fun _ => this, fun _ => ⟨this.2.2, fun h => by cases h⟩⟩
   ·split <;> simp [gzero]
theorem RM.parkK (h : RM M) (ok : List Bool) {g : Int} (hg : 0 ≤ g ∧ g ≤ 511) (L : List CaseM) (hL : ∀ c ∈ L, 0 ≤ c.value ∧ c.value ≤ 99) (h4 : L.length ≤ 4) : ∀ k, k ≤ L.length → RM (Go.Proofs.YtchkaaeoffmjnaaGreatDoor.parkK ok g L M k).2
 | 0, _ => h
 | k + 1, hk => by
  have ih := RM.parkK h ok hg L hL h4 k (by omega)
  unfold Go.Proofs.YtchkaaeoffmjnaaGreatDoor.parkK
  split
  ·exact ih
  ·refine ih.set _ ((ih.at_ _).wait _ ⟨hg, by dsimp only; omega, ?_⟩)
   dsimp only
   rw [List.getD_eq_getElem?_getD, List.getElem?_eq_getElem (by omega)]
   exact hL _ (List.getElem_mem _)
theorem RM.parkF (h : RM M) (ok : List Bool) {g : Int} (hg : 0 ≤ g ∧ g ≤ 511) (L : List CaseM) (hL : ∀ c ∈ L, 0 ≤ c.value ∧ c.value ≤ 99) (h4 : L.length ≤ 4) : RM (Go.Proofs.YtchkaaeoffmjnaaGreatDoor.parkF ok g L M).2 := by
 unfold Go.Proofs.YtchkaaeoffmjnaaGreatDoor.parkF
 split
 ·exact h
 ·split
  ·exact h
  ·exact h.parkK ok hg L hL h4 _ (Nat.le_refl _)
end
section
variable {g n a m v k : Int}
theorem ev_spawn (hg : 0 ≤ g ∧ g ≤ 511) (ha : 0 ≤ a ∧ a ≤ 7) (hm : 0 ≤ m ∧ m ≤ 511) : entF ⟨1, g, -1, -1, a, m, false, false⟩ = 0 := by
 simp [entF, shapeF, oddF, inn]; omega
theorem ev_make (hg : 0 ≤ g ∧ g ≤ 511) (hn : 0 ≤ n ∧ n ≤ 511) (ha : 0 ≤ a ∧ a ≤ 4) : entF ⟨2, g, n, -1, a, -1, false, false⟩ = 0 := by
 simp [entF, shapeF, oddF, inn]; omega
theorem ev_send (hg : 0 ≤ g ∧ g ≤ 511) (hn : 0 ≤ n ∧ n ≤ 511) (ha : -1 ≤ a ∧ a ≤ 3) (hv : 0 ≤ v ∧ v ≤ 99) (hm : -1 ≤ m ∧ m ≤ 511) : entF ⟨3, g, n, a, v, m, true, false⟩ = 0 := by
 simp [entF, shapeF, oddF, inn]; omega
theorem ev_recv {ok : Bool} (hg : 0 ≤ g ∧ g ≤ 511) (hn : 0 ≤ n ∧ n ≤ 511) (ha : -1 ≤ a ∧ a ≤ 3) (hv : 0 ≤ v ∧ v ≤ 99) (hm : -1 ≤ m ∧ m ≤ 511) (ho : ok = false → v = 0 ∧ m = -1) : entF ⟨4, g, n, a, v, m, false, ok⟩ = 0 := by
 cases ok with
 | true => simp [entF, shapeF, oddF, inn]; omega
 | false =>
  obtain ⟨rfl, rfl⟩ := ho rfl
  simp [entF, shapeF, oddF, inn]; omega
theorem ev_close (hg : 0 ≤ g ∧ g ≤ 511) (hn : 0 ≤ n ∧ n ≤ 511) : entF ⟨5, g, n, -1, -1, -1, false, false⟩ = 0 := by
 simp [entF, shapeF, oddF, inn]; omega
theorem ev_park {s : Bool} (hg : 0 ≤ g ∧ g ≤ 511) (hn : -1 ≤ n ∧ n ≤ 511) (hv : 0 ≤ v ∧ v ≤ 99) (hs : s = false → v = 0) : entF ⟨6, g, n, -1, v, -1, s, false⟩ = 0 := by
 cases s with
 | true => simp [entF, shapeF, oddF, inn]; omega
 | false =>
  obtain rfl := hs rfl
  simp [entF, shapeF, oddF, inn]; omega
theorem ev_parks (hg : 0 ≤ g ∧ g ≤ 511) (hk : 0 ≤ k ∧ k ≤ 4) : entF ⟨6, g, -1, k, 0, -1, false, false⟩ = 0 := by
 simp [entF, shapeF, oddF, inn]; omega
theorem ev_wake {s : Bool} (hg : 0 ≤ g ∧ g ≤ 511) (hn : 0 ≤ n ∧ n ≤ 511) (ha : -1 ≤ a ∧ a ≤ 3) (hv : 0 ≤ v ∧ v ≤ 99) (hm : 0 ≤ m ∧ m ≤ 511) : entF ⟨7, g, n, a, v, m, s, true⟩ = 0 := by
 cases s <;> simp [entF, shapeF, oddF, inn] <;> omega
theorem ev_woken (hg : 0 ≤ g ∧ g ≤ 511) (hn : 0 ≤ n ∧ n ≤ 511) (ha : -1 ≤ a ∧ a ≤ 3) (hm : 0 ≤ m ∧ m ≤ 511) : entF ⟨7, g, n, a, 0, m, false, false⟩ = 0 := by
 simp [entF, shapeF, oddF, inn]; omega
theorem ev_cells (hk : k = 9 ∨ k = 10) (hg : 0 ≤ g ∧ g ≤ 511) (ha : 0 ≤ a ∧ a ≤ 7) : entF ⟨k, g, -1, -1, a, -1, false, false⟩ = 0 := by
 rcases hk with rfl | rfl <;> simp [entF, shapeF, oddF, inn] <;> omega
theorem ev_bare (hk : k = 8 ∨ k = 11 ∨ k = 12) (hg : 0 ≤ g ∧ g ≤ 511) : entF (bareE k g) = 0 := by
 rcases hk with rfl | rfl | rfl <;> simp [bareE, entF, shapeF, oddF, inn] <;> exact ⟨decide_eq_true hg.1, decide_eq_true hg.2⟩
theorem ev_compact : entF (bareE 13 (-1)) = 0 := by decide
end
structure Rgt (n : Nat) (x : LmM) : Prop where
 m : RM x.M
 e : ∀ e ∈ x.tr, entF e = 0
 c : x.crew.length ≤ n + 1
 k : x.M.length ≤ n
 l : ∀ a ∈ x.name, -1 ≤ a
def OpV (o : OpM) : Prop := ∀ c ∈ o.cases, 0 ≤ c.value ∧ c.value ≤ 99
namespace Rgt
variable {n np kk : Nat} {x : LmM}
theorem note (h : Rgt n x) {e : Ev} (he : entF e = 0) : Rgt n (noteL x e) := ⟨h.m, fun a ha => (List.mem_append.1 ha).elim (h.e a) (fun ha => by rw [List.mem_singleton.1 ha]; exact he), h.c, h.k, h.l⟩
theorem setM (h : Rgt n x) {M : List PipeM} (hM : RM M) (hl : M.length = x.M.length) : Rgt n { x with M := M } := ⟨hM, h.e, h.c, by show M.length ≤ n; rw [hl]; exact h.k, h.l⟩
theorem turn (h : Rgt n x) (g fr to : Int) : Rgt n (turnL x g fr to) := ⟨h.m, h.e, by show (turnF x.crew g fr to (byOf fr to)).2.length ≤ n + 1; rw [turn_len]; exact h.c, h.k, h.l⟩
theorem wake (h : Rgt n x) {e : Ev} (he : entF e = 0) : Rgt n (wakeL x e) := ((h.note he).setM (M := x.M.map (fun y => dropM y e.g)) (h.m.drop e.g) (List.length_map _)).turn e.g 1 0
theorem panic (h : Rgt n x) {g : Int} (hg : 0 ≤ g ∧ g ≤ 511) : Rgt n (panicL x g) := by
 have h1 := h.note (ev_bare (k := 12) (.inr (.inr rfl)) hg)
 exact ⟨h1.m, h1.e, h1.c, h1.k, h1.l⟩
theorem wakes {g ch : Int} (hg : 0 ≤ g ∧ g ≤ 511) (hn : 0 ≤ ch ∧ ch ≤ 511) : ∀ (ws : List Wtr) {x : LmM}, Rgt n x → (∀ a ∈ ws, GW a) → Rgt n (wakesL x g ch ws)
 | [], _, h, _ => h
 | w :: ws, x, h, hw => by
  have h1 := hw w List.mem_cons_self
  unfold wakesL
  refine wakes hg hn ws ?_ (fun a ha => hw a (List.mem_cons_of_mem _ ha))
  split
  ·exact h.wake (ev_woken h1.1 hn h1.2.1 hg)
  ·exact h
theorem senders : ∀ (ws : List Wtr) {x : LmM}, Rgt n x → (∀ a ∈ ws, GW a) → Rgt n (sendersL x ws)
 | [], _, h, _ => h
 | w :: ws, x, h, hw => by
  unfold sendersL
  split
  ·exact h.panic (hw w List.mem_cons_self).1
  ·exact senders ws h (fun a ha => hw a (List.mem_cons_of_mem _ ha))
theorem num (h : Rgt n x) (hk : Lk np kk x) (hn : n ≤ 511) {c : Int} (hc : 0 ≤ c ∧ c < 8) : -1 ≤ numL x c ∧ numL x c ≤ 511 := by
 obtain ⟨j, rfl⟩ := Int.eq_ofNat_of_zero_le hc.1
 have hj : j < 8 := by omega
 have h1 := num_lt hk hj
 have h2 := h.k
 have hj' : j < x.name.length := by rw [hk.n8]; exact hj
 refine ⟨?_, by omega⟩
 rw [numL_get hj']
 exact h.l _ (List.getElem_mem hj')
theorem talk (h : Rgt n x) (hk : Lk np kk x) (hn : n ≤ 511) {g : Int} (hg : 0 ≤ g ∧ g ≤ 511) {c : CaseM} (hc : 0 ≤ c.chan ∧ c.chan < 8) (hv : 0 ≤ c.value ∧ c.value ≤ 99) (h0 : 0 ≤ numL x c.chan) {a : Int} (ha : -1 ≤ a ∧ a ≤ 3) : Rgt n (talkL x g c a) := by
 have hch : 0 ≤ numL x c.chan ∧ numL x c.chan ≤ 511 := ⟨h0, (h.num hk hn hc).2⟩
 have hM := h.m.named.try_ (okN x) hv
 obtain ⟨hw, hr⟩ := try_got h.m.named (okN x) c
 have h1 : Rgt n { x with M := backN x.name (tryF (okN x) (pipesN x) c).2 x.M } := h.setM (RM.back _ _ _ hM h.m) (backN_len _ _ _)
 unfold talkL
 dsimp only
 split
 ·exact h1.panic hg
 ·have hmate : -1 ≤ (if (tryF (okN x) (pipesN x) c).1.1.woke = true then (tryF (okN x) (pipesN x) c).1.1.mate.g else -1) ∧ (if (tryF (okN x) (pipesN x) c).1.1.woke = true then (tryF (okN x) (pipesN x) c).1.1.mate.g else -1) ≤ 511 := by
   split
   ·rename_i hwk
    have := (hw hwk).1
    omega
   ·decide
  have h2 : ∀ e : Ev, entF e = 0 → Rgt n (turnL (noteL { x with M := backN x.name (tryF (okN x) (pipesN x) c).2 x.M } e) g 0 0) := fun e he => (h1.note he).turn g 0 0
  have hev : entF (if c.send = true then ⟨3, g, numL x c.chan, a, c.value, if (tryF (okN x) (pipesN x) c).1.1.woke = true then (tryF (okN x) (pipesN x) c).1.1.mate.g else -1, true, false⟩ else ⟨4, g, numL x c.chan, a, (tryF (okN x) (pipesN x) c).1.1.value, if (tryF (okN x) (pipesN x) c).1.1.woke = true then (tryF (okN x) (pipesN x) c).1.1.mate.g else -1, false, (tryF (okN x) (pipesN x) c).1.1.ok⟩) = 0 := by
   split
   ·exact ev_send hg hch ha hv hmate
   ·rename_i hs
    obtain ⟨r1, r2⟩ := hr (by simpa using hs)
    exact ev_recv hg hch ha r1 hmate (fun ho => ⟨(r2 ho).1, by rw [(r2 ho).2]; rfl⟩)
  generalize (if c.send = true then (⟨3, g, numL x c.chan, a, c.value, if (tryF (okN x) (pipesN x) c).1.1.woke = true then (tryF (okN x) (pipesN x) c).1.1.mate.g else -1, true, false⟩ : Ev) else ⟨4, g, numL x c.chan, a, (tryF (okN x) (pipesN x) c).1.1.value, if (tryF (okN x) (pipesN x) c).1.1.woke = true then (tryF (okN x) (pipesN x) c).1.1.mate.g else -1, false, (tryF (okN x) (pipesN x) c).1.1.ok⟩) = E at hev ⊢
  split
  ·rename_i hwk
   have gm := hw hwk
   refine (h2 _ hev).wake (ev_wake gm.1 hch gm.2.1 ?_ hg)
   split
   ·exact hv
   ·exact gm.2.2
  ·exact h2 _ hev
theorem alone (h : Rgt n x) (hk : Lk np kk x) (hn : n ≤ 511) {g : Int} (hg : 0 ≤ g ∧ g ≤ 511) {c : CaseM} (hc : 0 ≤ c.chan ∧ c.chan < 8) (hv : 0 ≤ c.value ∧ c.value ≤ 99) (hs : c.send = false → c.value = 0) : Rgt n (aloneL x g c) := by
 have hnum := h.num hk hn hc
 unfold aloneL
 split
 ·rename_i hr
  refine h.talk hk hn hg hc hv ?_ ⟨by decide, by decide⟩
  obtain ⟨s, ch, v⟩ := c
  dsimp only at hc
  obtain ⟨j, rfl⟩ := Int.eq_ofNat_of_zero_le hc.1
  rw [readyC_num hk (by omega)] at hr
  by_cases h0 : 0 ≤ numL x (j : Int)
  ·exact h0
  ·rw [if_neg h0] at hr
   cases hr
 ·dsimp only
  refine turn ?_ g 0 1
  have h1 := h.note (ev_park (s := c.send) hg hnum hv hs)
  split
  ·exact h1.setM (h1.m.set _ ((h1.m.at_ _).wait _ ⟨hg, ⟨show (-1 : Int) ≤ -1 by decide, show (-1 : Int) ≤ 3 by decide⟩, hv⟩)) (List.length_set)
  ·exact h1
theorem shut (h : Rgt n x) (hk : Lk np kk x) (hn : n ≤ 511) {g c : Int} (hg : 0 ≤ g ∧ g ≤ 511) (hc : 0 ≤ c ∧ c < 8) : Rgt n (shutL x g c) := by
 have hnum := h.num hk hn hc
 unfold shutL
 dsimp only
 split
 ·exact h.panic hg
 ·split
  ·exact h.panic hg
  ·have h1 : Rgt n { x with M := x.M.set (numL x c).toNat (closeF (x.M.getD (numL x c).toNat (emptyM 0))).2 } := h.setM (h.m.set _ (h.m.at_ _).close) List.length_set
   obtain ⟨w1, w2⟩ := close_wts (h.m.at_ (numL x c).toNat)
   exact senders _ (wakes hg ⟨by omega, hnum.2⟩ _ ((h1.note (ev_close hg ⟨by omega, hnum.2⟩)).turn g 0 0) w1) w2
theorem choose (h : Rgt n x) (hk : Lk np kk x) (hn : n ≤ 511) {g : Int} (hg : 0 ≤ g ∧ g ≤ 511) {o : OpM} (ho : OpOk np o) (hv : OpV o) (s : ScrM) : Rgt n (chooseL s x g o) := by
 unfold chooseL
 dsimp only
 split
 ·rename_i hl
  have hm := draw_lt s x hl
  rw [show (readyL (okN x) (pipesN x) o.cases).getD (drawL s x (readyL (okN x) (pipesN x) o.cases).length).1 0 = (readyL (okN x) (pipesN x) o.cases)[(drawL s x (readyL (okN x) (pipesN x) o.cases).length).1] from by rw [List.getD_eq_getElem?_getD, List.getElem?_eq_getElem hm]; rfl]
  obtain ⟨i, hi, hil, hr⟩ := ready_mem (List.getElem_mem hm)
  rw [hi, Int.toNat_natCast]
  have hin : o.cases.getD i ⟨false, 0, 0⟩ ∈ o.cases := by
   rw [List.getD_eq_getElem?_getD, List.getElem?_eq_getElem hil]
   exact List.getElem_mem hil
  have hch := ho.ch _ hin
  have hcl := ho.cl
  rw [drawL_I]
  have h1 : Rgt n { x with d := (drawI s.draws x.d (readyL (okN x) (pipesN x) o.cases).length).2 } := ⟨h.m, h.e, h.c, h.k, h.l⟩
  refine h1.talk (hk.dd _) hn hg hch (hv _ hin) ?_ (by omega)
  show 0 ≤ numL x (o.cases.getD i ⟨false, 0, 0⟩).chan
  revert hr hch
  generalize o.cases.getD i ⟨false, 0, 0⟩ = c0
  intro hr hch
  obtain ⟨s1, ch1, v1⟩ := c0
  dsimp only at hch ⊢
  obtain ⟨j, rfl⟩ := Int.eq_ofNat_of_zero_le hch.1
  rw [readyC_num hk (by omega)] at hr
  by_cases h0 : 0 ≤ numL x (j : Int)
  ·exact h0
  ·rw [if_neg h0] at hr
   cases hr
 ·split
  ·exact (h.note (ev_bare (.inl rfl) hg)).turn g 0 0
  ·have hcl := ho.cl
   have h1 := h.note (ev_parks (g := g) (k := (o.cases.length : Int)) hg (by omega))
   refine turn ?_ g 0 1
   exact h1.setM (RM.back _ _ _ (h.m.named.parkF (okN x) hg o.cases hv ho.cl) h.m) (backN_len _ _ _)
theorem spawn_got (L : List One) (p : Int) (hL : L.length ≤ 512) : (0 ≤ (spawnF L p).1.1 ∧ (spawnF L p).1.1 ≤ 511) ∧ (spawnF L p).2.length ≤ L.length + 1 := by
 unfold spawnF
 split
 ·exact ⟨⟨show (0 : Int) ≤ 0 by decide, show (0 : Int) ≤ 511 by decide⟩, by dsimp only; omega⟩
 ·split
  ·exact ⟨⟨show (0 : Int) ≤ 0 by decide, show (0 : Int) ≤ 511 by decide⟩, by dsimp only; omega⟩
  ·exact ⟨by dsimp only; omega, by simp⟩
theorem other (h : Rgt n x) (hk : Lk np kk x) (hn : n ≤ 511) {g : Int} (hg : 0 ≤ g ∧ g ≤ 511) {o : OpM} (ho : OpOk np o) : Rgt (n + 1) (otherL x g o) := by
 have up : ∀ {z : LmM}, Rgt n z → Rgt (n + 1) z := fun h => ⟨h.m, h.e, Nat.le_succ_of_le h.c, Nat.le_succ_of_le h.k, h.l⟩
 have ha : 0 ≤ o.a ∧ o.a ≤ 7 := by have := ho.a0; have := ho.a1; omega
 unfold otherL
 split
 ·obtain ⟨s1, s2⟩ := spawn_got x.crew o.a hk.cl
  have h1 : Rgt (n + 1) { x with crew := (spawnF x.crew o.a).2 } := ⟨h.m, h.e, by show (spawnF x.crew o.a).2.length ≤ _; have := h.c; omega, Nat.le_succ_of_le h.k, h.l⟩
  exact (h1.note (ev_spawn hg ha s1)).turn g 0 0
 ·split
  ·rename_i h2
   have hb := ho.cap h2
   have hb0 := ho.b0
   have hkk := h.k
   have h1 : Rgt (n + 1) { x with M := x.M ++ [emptyM o.b.toNat], name := x.name.set o.a.toNat x.M.length } := by
    refine ⟨fun y hy => ?_, h.e, Nat.le_succ_of_le h.c, by show (x.M ++ [emptyM o.b.toNat]).length ≤ n + 1; simp; exact h.k, fun a ha => ?_⟩
    ·rcases List.mem_append.1 hy with hy | hy
     ·exact h.m y hy
     ·rw [List.mem_singleton.1 hy]; exact RP.empty _
    ·rcases List.mem_or_eq_of_mem_set ha with ha | rfl
     ·exact h.l a ha
     ·omega
   exact (h1.note (ev_make hg (by omega) ⟨hb0, hb⟩)).turn g 0 0
  ·split
   ·exact up ((h.note (ev_cells (.inl rfl) hg ha)).turn g 0 0)
   ·split
    ·exact up ((h.note (ev_cells (.inr rfl) hg ha)).turn g 0 0)
    ·exact up ((h.turn g 0 2).note (ev_bare (.inr (.inl rfl)) hg))
theorem does (h : Rgt n x) (hk : Lk np kk x) (hn : n ≤ 511) {g : Int} (hg : 0 ≤ g ∧ g ≤ 511) {o : OpM} (ho : OpOk np o) (hv : OpV o) (s : ScrM) : Rgt (n + 1) (doesL s x g o) := by
 have up : ∀ {z : LmM}, Rgt n z → Rgt (n + 1) z := fun h => ⟨h.m, h.e, Nat.le_succ_of_le h.c, Nat.le_succ_of_le h.k, h.l⟩
 unfold doesL
 split
 ·exact up (h.alone hk hn hg ⟨ho.a0, ho.a1⟩ ⟨ho.b0, ho.b1⟩ (fun h => by cases h))
 ·split
  ·exact up (h.alone hk hn hg ⟨ho.a0, ho.a1⟩ ⟨show (0 : Int) ≤ 0 by decide, show (0 : Int) ≤ 99 by decide⟩ (fun _ => rfl))
  ·split
   ·exact up (h.shut hk hn hg ⟨ho.a0, ho.a1⟩)
   ·split
    ·exact up (h.choose hk hn hg ho hv s)
    ·exact h.other hk hn hg ho
end Rgt
def ProgsV (ps : List (List OpM)) : Prop := ∀ p ∈ ps, ∀ o ∈ p, OpV o
theorem opL_V {s : ScrM} (hs : ProgsV s.progs) (x : LmM) (g : Int) : OpV (opL s x g) := by
 have he : OpV exitOp := fun c hc => absurd hc (by simp [exitOp])
 unfold opL
 split
 ·exact he
 ·split
  ·exact he
  ·rename_i p hp
   split
   ·exact he
   ·rw [List.getD_eq_getElem?_getD]
    cases ho : p[(_ : One).place.toNat]? with
    | none => exact he
    | some o => exact hs p (List.mem_of_getElem? hp) o (List.mem_of_getElem? ho)
theorem opE_V {np : Nat} {o : OpM} (h : opE np o = 0) : OpV o := by
 unfold opE at h
 split at h
 ·cases h
 ·split at h
  ·cases h
  ·split at h
   ·cases h
   ·split at h
    ·cases h
    ·split at h
     ·rename_i h5
      intro c hc
      have := List.all_eq_true.1 h5 c hc
      unfold caseR at this
      cases hs : c.send with
      | true =>
       rw [hs] at this
       simp [withinF] at this
       exact this.2
      | false =>
       rw [hs] at this
       simp [withinF] at this
       rw [this.2]
       decide
     ·cases h
theorem checkE_V {s : ScrM} (h : checkE s = 0) : ProgsV s.progs := by
 unfold checkE at h
 split at h
 ·cases h
 ·split at h
  ·cases h
  ·split at h
   ·cases h
   ·split at h
    ·cases h
    ·split at h
     ·cases h
     ·rename_i h5
      simp only [Bool.not_eq_false] at h5
      intro p hp o ho
      have := List.all_eq_true.1 h5 p hp
      have := List.all_eq_true.1 this o ho
      exact opE_V (eq_of_beq this)
theorem Rgt.step {n np kk : Nat} {s : ScrM} {x : LmM} (h : Rgt n x) (hk : Lk np kk x) (hn : n ≤ 511) (hs : ProgsOk s.progs) (hp : s.progs.length = np) (h1 : 1 ≤ np) (hv : ProgsV s.progs) : Rgt (n + 1) (stepL s x) := by
 have up : ∀ {z : LmM}, Rgt n z → Rgt (n + 1) z := fun h => ⟨h.m, h.e, Nat.le_succ_of_le h.c, Nat.le_succ_of_le h.k, h.l⟩
 have h2 : Rgt n { x with p := x.p + 1 } := ⟨h.m, h.e, h.c, h.k, h.l⟩
 unfold stepL
 split
 ·exact up h
 ·rename_i hver
  have hver : verL s x = 0 := Classical.byContradiction hver
  split
  ·exact up (h2.note ev_compact)
  ·rename_i h0
   have hw := who_in hver h0
   have hcl := hk.cl
   subst hp
   exact h2.does (hk.pp (x.p + 1)) hn (by omega) (opL_ok hs h1 x _) (opL_V hv x _) s
theorem Rgt.new : Rgt 0 newL := ⟨fun y hy => absurd hy List.not_mem_nil, fun e he => absurd he List.not_mem_nil, Nat.le_refl _, Nat.le_refl _, fun a ha => by rw [List.eq_of_mem_replicate ha]; decide⟩
theorem Rgt.run {np : Nat} {s : ScrM} (hs : ProgsOk s.progs) (hp : s.progs.length = np) (h1 : 1 ≤ np) (hv : ProgsV s.progs) : ∀ n, n ≤ 512 → Rgt n (runL s n)
 | 0, _ => Rgt.new
 | n + 1, hn => (Rgt.run hs hp h1 hv n (by omega)).step (Lk.run hs hp h1 n) (by omega) hs hp h1 hv
theorem run_right {s : ScrM} (h : checkE s = 0) : ∀ e ∈ (runL s (s.plan.length + 1)).tr, entF e = 0 := by
 have hr := checkE_right h
 have hpl := hr.pl
 exact (Rgt.run hr.ok rfl hr.n1 (checkE_V h) (s.plan.length + 1) (by omega)).e
theorem lt_note (x : LmM) (e : Ev) : x.tr.length < (noteL x e).tr.length := by
 show x.tr.length < (x.tr ++ [e]).length
 simp
section
variable (x : LmM)
theorem lt_talk (g : Int) (c : CaseM) (a : Int) : x.tr.length < (talkL x g c a).tr.length := by
 unfold talkL
 dsimp only
 split
 ·exact lt_note _ _
 ·split
  ·exact Nat.lt_trans (lt_note _ _) (lt_note _ _)
  ·exact lt_note _ _
theorem lt_alone (g : Int) (c : CaseM) : x.tr.length < (aloneL x g c).tr.length := by
 unfold aloneL
 split
 ·exact lt_talk x g c _
 ·unfold turnL
  dsimp only
  split <;> exact lt_note x _
theorem lt_shut (g c : Int) : x.tr.length < (shutL x g c).tr.length := by
 unfold shutL
 dsimp only
 split
 ·exact lt_note _ _
 ·split
  ·exact lt_note _ _
  ·refine Nat.lt_of_lt_of_le ?_ (pre_senders _ _).length_le
   refine Nat.lt_of_lt_of_le ?_ (pre_wakes _ _ _ _).length_le
   exact lt_note x _
theorem lt_choose (s : ScrM) (g : Int) (o : OpM) : x.tr.length < (chooseL s x g o).tr.length := by
 unfold chooseL
 dsimp only
 split
 ·rw [drawL_I]
  exact lt_talk { x with d := (drawI s.draws x.d (readyL (okN x) (pipesN x) o.cases).length).2 } g _ _
 ·split
  ·exact lt_note _ _
  ·exact lt_note _ _
theorem lt_other (g : Int) (o : OpM) : x.tr.length < (otherL x g o).tr.length := by
 unfold otherL
 split
 ·exact lt_note { x with crew := _ } _
 ·split
  ·exact lt_note { x with M := _, name := _ } _
  ·split
   ·exact lt_note _ _
   ·split
    ·exact lt_note _ _
    ·exact lt_note (turnL x g 0 2) _
theorem lt_does (s : ScrM) (g : Int) (o : OpM) : x.tr.length < (doesL s x g o).tr.length := by
 unfold doesL
 split
 ·exact lt_alone x g _
 ·split
  ·exact lt_alone x g _
  ·split
   ·exact lt_shut x g _
   ·split
    ·exact lt_choose x s g o
    ·exact lt_other x g o
theorem lt_step {s : ScrM} (h : verL s x = 0) : x.tr.length < (stepL s x).tr.length := by
 unfold stepL
 rw [if_neg (fun hh => hh h)]
 split
 ·exact lt_note { x with p := _ } _
 ·exact lt_does { x with p := x.p + 1 } s _ _
end
theorem over_range (L : List One) : 0 ≤ overF L ∧ overF L ≤ 2 := by
 unfold overF
 split
 ·decide
 ·split <;> decide
theorem ver_range (s : ScrM) (x : LmM) : 0 ≤ verL s x ∧ verL s x ≤ 4 := by
 have := over_range x.crew
 unfold verL
 split
 ·decide
 ·split
  ·omega
  ·split <;> decide
end Go.Proofs.YtchkaaeoffmjnaaGreatDoor
namespace Go.Proofs.YtchkaaeoffmjnaaGreatDoor
set_option linter.unusedVariables false
set_option linter.unusedSimpArgs false
structure ChnM where
 size : Int
 buf : List Int
 closed : Bool
structure RdrM where
 crew : List (Bool × Bool)
 chans : List ChnM
 closer : Ev
 over : Bool
def evz : Ev := ⟨0, 0, 0, 0, 0, 0, false, false⟩
def servesF (e : Ev) : Bool := decide (0 ≤ e.mate) && (e.kind == 3 || e.kind == 4)
def crewedF (r : RdrM) (e : Ev) : Bool × RdrM :=
 if r.over = true then (false, r)
 else if e.kind = 13 then (true, r)
 else match r.crew[e.g.toNat]? with
  | none => (false, r)
  | some x =>
   if x.2 = true then (false, r)
   else if e.kind ≠ 12 ∧ x.1 ≠ (e.kind == 7) then (false, r)
   else if e.kind = 1 then
    if e.mate ≠ r.crew.length then (false, { r with crew := r.crew.set e.g.toNat (e.kind == 6, e.kind == 11), over := e.kind == 12 })
    else (true, { r with crew := r.crew.set e.g.toNat (e.kind == 6, e.kind == 11) ++ [(false, false)], over := e.kind == 12 })
   else (true, { r with crew := r.crew.set e.g.toNat (e.kind == 6, e.kind == 11), over := e.kind == 12 })
def chanF (r : RdrM) (c : Int) : Option ChnM := if c < 0 then none else r.chans[c.toNat]?
def madeF (r : RdrM) (e : Ev) : Bool × RdrM :=
 if e.kind = 2 then
  if e.chan ≠ r.chans.length then (false, r) else (true, { r with chans := r.chans ++ [⟨e.value, [], false⟩] })
 else (e.chan == -1 || (chanF r e.chan).isSome, r)
def wantF (s e : Ev) : Ev := ⟨7, s.mate, s.chan, e.case_, if s.send = true then s.value else e.value, s.g, !s.send, true⟩
def servedF (r : RdrM) (prev : Option Ev) (e : Ev) : Bool × RdrM :=
 match prev.filter servesF with
 | some s => (decide (e = wantF s e), r)
 | none =>
  if e.kind = 7 then (r.closer.kind == 5 && e.mate == r.closer.g && e.chan == r.closer.chan && !e.send && !e.ok, r)
  else (true, { r with closer := e })
/-- What a channel holds behind an event, and whether that is right. -/
def takeF (c : ChnM) (next : Option Int) (e : Ev) : Bool × ChnM :=
 let L := if e.send = true then c.buf ++ [e.value] else if 0 ≤ e.mate then (match next with | some v => c.buf ++ [v] | none => c.buf) else c.buf
 let takes := if e.send = true then decide (0 ≤ e.mate) else true
 let missing := !e.send && decide (0 ≤ e.mate) && next.isNone
 match takes, L with
 | true, v :: L => (v == e.value && decide ((L.length : Int) ≤ c.size), { c with buf := L })
 | _, L => ((!takes || missing) && decide ((L.length : Int) ≤ c.size), { c with buf := L })
def orderedF (r : RdrM) (next : Option Int) (e : Ev) : Bool × RdrM :=
 match chanF r e.chan with
 | none => (true, r)
 | some c =>
  if e.kind ≠ 3 ∧ (e.kind ≠ 4 ∨ e.ok = false) then (true, r)
  else ((takeF c next e).1, { r with chans := r.chans.set e.chan.toNat (takeF c next e).2 })
def closedF (r : RdrM) (e : Ev) : Bool × RdrM :=
 match chanF r e.chan with
 | none => (true, r)
 | some c =>
  if e.kind = 5 then (!c.closed, { r with chans := r.chans.set e.chan.toNat { c with closed := true } })
  else if e.kind = 3 ∨ e.kind = 4 ∧ 0 ≤ e.mate then (!c.closed, r)
  else if e.kind = 4 ∧ e.ok = false then (c.closed && c.buf.isEmpty, r)
  else (true, r)
/-- The rule that an event breaks, and the state behind it. -/
def stepG (r : RdrM) (prev : Option Ev) (next : Option Int) (e : Ev) : Int × RdrM :=
 if entF e ≠ 0 then (1, r)
 else if (crewedF r e).1 = false then (2, (crewedF r e).2)
 else if (madeF (crewedF r e).2 e).1 = false then (3, (madeF (crewedF r e).2 e).2)
 else if (servedF (madeF (crewedF r e).2 e).2 prev e).1 = false then (4, (servedF (madeF (crewedF r e).2 e).2 prev e).2)
 else if (orderedF (servedF (madeF (crewedF r e).2 e).2 prev e).2 next e).1 = false then (5, (orderedF (servedF (madeF (crewedF r e).2 e).2 prev e).2 next e).2)
 else if (closedF (orderedF (servedF (madeF (crewedF r e).2 e).2 prev e).2 next e).2 e).1 = false then (6, (closedF (orderedF (servedF (madeF (crewedF r e).2 e).2 prev e).2 next e).2 e).2)
 else (0, (closedF (orderedF (servedF (madeF (crewedF r e).2 e).2 prev e).2 next e).2 e).2)
def prevF (l : List Ev) (i : Nat) : Option Ev := if i = 0 then none else l[i - 1]?
def nextF (l : List Ev) (i : Nat) : Option Int := (l[i + 1]?).map (·.value)
def stG (l : List Ev) : Nat → RdrM
 | 0 => ⟨[(false, false)], [], evz, false⟩
 | n + 1 => (stepG (stG l n) (prevF l n) (nextF l n) (l.getD n evz)).2
structure GoM where
 there : Nat
 waits : Bool
 exited : Bool
 over : Bool
def goR (l : List Ev) (g : Int) : Nat → GoM
  | 0 => ⟨1, false, false, false⟩
  | n + 1 =>
    let s := goR l g n
    let x := l.getD n evz
    ⟨if x.kind = 1 then s.there + 1 else s.there,
     if x.g ≠ g ∨ x.kind = 13 then s.waits else if x.kind = 7 then false else if x.kind = 6 then true else s.waits,
     if x.g ≠ g ∨ x.kind = 13 then s.exited else (s.exited || x.kind == 11),
     s.over || x.kind == 12⟩
def crewR (l : List Ev) (i : Nat) : Bool :=
 let e := l.getD i evz
 let s := goR l e.g i
 if s.over = true then false
 else if e.kind = 13 then true
 else decide (e.g < s.there) && !s.exited && (e.kind == 12 || s.waits == (e.kind == 7)) && (e.kind != 1 || e.mate == s.there)
def makesR (l : List Ev) : Nat → Nat
 | 0 => 0
 | n + 1 => if (l.getD n evz).kind = 2 then makesR l n + 1 else makesR l n
def madeR (l : List Ev) (i : Nat) : Bool :=
 if (l.getD i evz).kind = 2 then (l.getD i evz).chan == makesR l i else decide ((l.getD i evz).chan < makesR l i)
/-- The look back for a Close. -/
def backR (l : List Ev) (e : Ev) : Nat → Bool
 | 0 => false
 | k + 1 =>
  let x := l.getD k evz
  if x.kind = 5 then x.g == e.mate && x.chan == e.chan
  else if x.kind ≠ 7 ∨ (0 < k ∧ servesF (l.getD (k - 1) evz) = true) then false
  else backR l e k
def servedR (l : List Ev) (i : Nat) : Bool :=
 let e := l.getD i evz
 if 0 < i ∧ servesF (l.getD (i - 1) evz) = true then
  let s := l.getD (i - 1) evz
  e.kind == 7 && e.g == s.mate && e.mate == s.g && e.chan == s.chan && e.send != s.send && e.ok && (!s.send || e.value == s.value)
 else if e.kind ≠ 7 then true
 else if e.ok = true ∨ e.send = true then false
 else backR l e i
structure InsM where
 size : Int
 buf : List Int
 closed : Bool
 right : Bool
def insStep (l : List Ev) (c : Int) (i : Nat) (s : InsM) : InsM :=
 let e := l.getD i evz
 if e.chan ≠ c then s
 else
  let size := if e.kind = 2 then e.value else s.size
  let closed := if e.kind = 5 then true else s.closed
  if e.kind ≠ 3 ∧ (e.kind ≠ 4 ∨ e.ok = false) then ⟨size, s.buf, closed, s.right⟩
  else
   let last := decide (i + 1 = l.length)
   let L := if e.kind = 3 then s.buf ++ [e.value] else if 0 ≤ e.mate ∧ last = false then s.buf ++ [(l.getD (i + 1) evz).value] else s.buf
   if e.kind = 4 ∨ 0 ≤ e.mate then
    match L with
    | v :: L => ⟨size, L, closed, v == e.value && decide ((L.length : Int) ≤ size)⟩
    | [] => ⟨size, [], closed, (decide (0 ≤ e.mate) && last) && decide ((0 : Int) ≤ size)⟩
   else ⟨size, L, closed, true && decide ((L.length : Int) ≤ size)⟩
def insR (l : List Ev) (c : Int) : Nat → InsM
 | 0 => ⟨0, [], false, true⟩
 | n + 1 => insStep l c n (insR l c n)
def orderedR (l : List Ev) (i : Nat) : Bool :=
 let e := l.getD i evz
 if e.kind ≠ 3 ∧ (e.kind ≠ 4 ∨ e.ok = false) then true else (insR l e.chan (i + 1)).right
def closedR (l : List Ev) (i : Nat) : Bool :=
 let e := l.getD i evz
 if e.kind < 3 ∨ 5 < e.kind then true
 else
  let s := insR l e.chan i
  if e.kind = 4 ∧ e.ok = false then s.closed && s.buf.isEmpty
  else if e.kind = 4 ∧ e.mate < 0 then true
  else !s.closed
def brR (l : List Ev) (i : Nat) : Int :=
 if ref12 (l.getD i evz) ≠ 0 then 1
 else if crewR l i = false then 2
 else if madeR l i = false then 3
 else if servedR l i = false then 4
 else if orderedR l i = false then 5
 else if closedR l i = false then 6
 else 0
end Go.Proofs.YtchkaaeoffmjnaaGreatDoor
namespace Go.Proofs.YtchkaaeoffmjnaaGreatDoor
set_option linter.unusedVariables false
set_option linter.unusedSimpArgs false
structure Rt (e : Ev) : Prop where
 k0 : 1 ≤ e.kind
 k1 : e.kind ≤ 13
 g : e.kind ≠ 13 → 0 ≤ e.g ∧ e.g ≤ 511
 c0 : -1 ≤ e.chan
 cc : e.kind = 2 ∨ e.kind = 3 ∨ e.kind = 4 ∨ e.kind = 5 ∨ e.kind = 7 → 0 ≤ e.chan
 s3 : e.kind = 3 → e.send = true
 s4 : e.kind = 4 → e.send = false
 m4 : e.kind = 4 → e.ok = false → e.mate = -1
 v2 : e.kind = 2 → 0 ≤ e.value
set_option maxHeartbeats 4000000 in
theorem Rt.of {e : Ev} (h : ref12 e = 0) : Rt e := by
 obtain ⟨kind, g, chan, case_, value, mate, send, ok⟩ := e
 unfold ref12 at h
 by_cases hh : kind < 1 ∨ 13 < kind
 ·rw [if_pos hh] at h
  simp at h
 ·rw [if_neg hh] at h
  have hk : kind = 1 ∨ kind = 2 ∨ kind = 3 ∨ kind = 4 ∨ kind = 5 ∨ kind = 6 ∨ kind = 7 ∨ kind = 8 ∨ kind = 9 ∨ kind = 10 ∨ kind = 11 ∨ kind = 12 ∨ kind = 13 := by omega
  clear hh
  by_cases h2 : (okF ⟨kind, g, chan, case_, value, mate, send, ok⟩ && (if kind = 13 then g == -1 else inn 0 511 g)) = true
  ·clear h
   rcases hk with rfl | rfl | rfl | rfl | rfl | rfl | rfl | rfl | rfl | rfl | rfl | rfl | rfl <;> cases send <;> cases ok <;> simp [okF, inn] at h2 <;> constructor <;> simp <;> omega
  ·rw [if_neg h2] at h
   simp at h
structure InvG (l : List Ev) (i : Nat) (r : RdrM) : Prop where
 over : ∀ g, r.over = (goR l g i).over
 there : ∀ g, (goR l g i).there = r.crew.length
 crew : r.over = false → ∀ g : Nat, g < r.crew.length → r.crew[g]? = some ((goR l g i).waits, (goR l g i).exited)
 new : ∀ g : Nat, r.crew.length ≤ g → (goR l g i).waits = false ∧ (goR l g i).exited = false
 makes : r.chans.length = makesR l i
 ins : ∀ c : Nat, c < r.chans.length → r.chans[c]? = some ⟨(insR l c i).size, (insR l c i).buf, (insR l c i).closed⟩
 insNew : ∀ c : Nat, r.chans.length ≤ c → (insR l c i).buf = [] ∧ (insR l c i).closed = false
 closer : ∀ e, backR l e i = (r.closer.kind == 5 && e.mate == r.closer.g && e.chan == r.closer.chan)
theorem InvG.start (l : List Ev) : InvG l 0 (stG l 0) := by
 constructor
 ·intro g; rfl
 ·intro g; rfl
 ·intro _ g hg
  have : g = 0 := by simp [stG] at hg; omega
  subst this
  rfl
 ·intro g hg; exact ⟨rfl, rfl⟩
 ·rfl
 ·intro c hc; simp [stG] at hc
 ·intro c hc; exact ⟨rfl, rfl⟩
 ·intro e; rfl
section
variable {l : List Ev} {i : Nat} {r : RdrM}
theorem crewed_keeps (r : RdrM) (e : Ev) : (crewedF r e).2.chans = r.chans ∧ (crewedF r e).2.closer = r.closer := by
 unfold crewedF
 split
 ·exact ⟨rfl, rfl⟩
 split
 ·exact ⟨rfl, rfl⟩
 split
 ·exact ⟨rfl, rfl⟩
 split
 ·exact ⟨rfl, rfl⟩
 split
 ·exact ⟨rfl, rfl⟩
 split
 ·split <;> exact ⟨rfl, rfl⟩
 ·exact ⟨rfl, rfl⟩
theorem crew_same (h : InvG l i r) (hr : Rt (l.getD i evz)) : (crewedF r (l.getD i evz)).1 = crewR l i := by
 unfold crewR crewedF
 obtain ⟨e, he⟩ : ∃ e, l.getD i evz = e := ⟨_, rfl⟩
 rw [he] at hr ⊢
 dsimp only
 rw [h.over e.g]
 split
 ·rfl
 split
 ·rfl
 ·rename_i h1 h13
  have hg := hr.g h13
  obtain ⟨g, hgg⟩ : ∃ g : Nat, e.g = g := ⟨e.g.toNat, by omega⟩
  have ht := h.there (g : Int)
  rw [hgg, ht, Int.toNat_natCast]
  by_cases hlt : g < r.crew.length
  ·have hc := h.crew (by rw [h.over e.g]; simpa using h1) g hlt
   rw [hc]
   have d : decide ((g : Int) < (r.crew.length : Int)) = true := by simp; exact hlt
   rw [d]
   dsimp only
   cases (goR l g i).exited
   ·cases (goR l g i).waits <;> by_cases h12 : e.kind = 12 <;> by_cases h7 : e.kind = 7 <;> by_cases h1 : e.kind = 1 <;> by_cases hm : e.mate = r.crew.length <;> simp [h12, h7, h1, hm] <;> omega
   ·simp
  ·rw [List.getElem?_eq_none (by omega)]
   have d : decide ((g : Int) < (r.crew.length : Int)) = false := by simp; omega
   rw [d]
   rfl
theorem made_same (h : InvG l i r) (hr : Rt (l.getD i evz)) : (madeF (crewedF r (l.getD i evz)).2 (l.getD i evz)).1 = madeR l i := by
 have hk := (crewed_keeps r (l.getD i evz)).1
 unfold madeF madeR chanF
 rw [hk]
 obtain ⟨e, he⟩ : ∃ e, l.getD i evz = e := ⟨_, rfl⟩
 rw [he] at hr ⊢
 rw [h.makes]
 have hm := h.makes
 split
 ·by_cases hc : e.chan = (makesR l i : Int)
  ·rw [if_neg (by simpa using hc)]
   simp [hc]
  ·rw [if_pos hc]
   simp [hc]
 ·dsimp only
  have := hr.c0
  by_cases hc : e.chan < 0
  ·have : e.chan = -1 := by omega
   rw [this]
   simp
   omega
  ·rw [if_neg hc]
   have d1 : (e.chan == -1) = false := by rw [beq_eq_false_iff_ne]; omega
   rw [d1, Bool.false_or]
   by_cases hlt : e.chan < (makesR l i : Int)
   ·rw [List.getElem?_eq_getElem (by omega), decide_eq_true hlt]
    rfl
   ·rw [List.getElem?_eq_none (by omega), decide_eq_false hlt]
    rfl
end
end Go.Proofs.YtchkaaeoffmjnaaGreatDoor
namespace Go.Proofs.YtchkaaeoffmjnaaGreatDoor
set_option linter.unusedVariables false
set_option linter.unusedSimpArgs false
section
variable {l : List Ev} {i : Nat} {r r' : RdrM}
theorem prev_at (hi : i ≤ l.length) : prevF l i = if i = 0 then none else some (l.getD (i - 1) evz) := by
 unfold prevF
 split
 ·rfl
 ·rw [List.getD_eq_getElem?_getD, List.getElem?_eq_getElem (by omega)]
  rfl
theorem want_same (s e : Ev) : decide (e = wantF s e) = (e.kind == 7 && e.g == s.mate && e.mate == s.g && e.chan == s.chan && e.send != s.send && e.ok && (!s.send || e.value == s.value)) := by
 obtain ⟨kind, g, chan, case_, value, mate, send, ok⟩ := e
 obtain ⟨skind, sg, schan, scase, svalue, smate, ssend, sok⟩ := s
 rw [Bool.eq_iff_iff]
 unfold wantF
 cases ssend <;> cases send <;> cases ok <;> simp [Ev.mk.injEq] <;> omega
theorem served_same (h : InvG l i r) (hi : i < l.length) (hc : r'.closer = r.closer) : (servedF r' (prevF l i) (l.getD i evz)).1 = servedR l i := by
 unfold servedF servedR
 rw [prev_at (Nat.le_of_lt hi), hc]
 obtain ⟨e, he⟩ : ∃ e, l.getD i evz = e := ⟨_, rfl⟩
 rw [he]
 dsimp only
 by_cases h0 : 0 < i ∧ servesF (l.getD (i - 1) evz) = true
 ·rw [if_pos h0, if_neg (by omega)]
  simp only [Option.filter, h0.2, if_true]
  exact want_same _ _
 ·rw [if_neg h0]
  have hn : (if i = 0 then none else some (l.getD (i - 1) evz)).filter servesF = none := by
   by_cases hz : i = 0
   ·rw [if_pos hz]; rfl
   ·rw [if_neg hz]
    have : servesF (l.getD (i - 1) evz) = false := by
     cases hs : servesF (l.getD (i - 1) evz)
     ·rfl
     ·exact absurd ⟨by omega, hs⟩ h0
    simp only [Option.filter, this]
    rfl
  rw [hn]
  dsimp only
  by_cases h7 : e.kind = 7
  ·rw [if_pos h7, if_neg (by simpa using h7)]
   have hb := h.closer e
   cases hs : e.send <;> cases ho : e.ok <;> simp [hb]
  ·rw [if_neg h7, if_pos h7]
theorem next_at (hi : i < l.length) : nextF l i = if i + 1 = l.length then none else some (l.getD (i + 1) evz).value := by
 unfold nextF
 split
 ·rw [List.getElem?_eq_none (by omega)]
  rfl
 ·rw [List.getD_eq_getElem?_getD, List.getElem?_eq_getElem (by omega)]
  rfl
theorem take_same (hi : i < l.length) (s : InsM) (hk : ((l.getD i evz).kind = 3 ∧ (l.getD i evz).send = true) ∨ ((l.getD i evz).kind = 4 ∧ (l.getD i evz).send = false ∧ (l.getD i evz).ok = true)) :
  insStep l (l.getD i evz).chan i s = ⟨(takeF ⟨s.size, s.buf, s.closed⟩ (nextF l i) (l.getD i evz)).2.size, (takeF ⟨s.size, s.buf, s.closed⟩ (nextF l i) (l.getD i evz)).2.buf, (takeF ⟨s.size, s.buf, s.closed⟩ (nextF l i) (l.getD i evz)).2.closed, (takeF ⟨s.size, s.buf, s.closed⟩ (nextF l i) (l.getD i evz)).1⟩ := by
 unfold insStep takeF
 rw [next_at hi]
 obtain ⟨e, he⟩ : ∃ e, l.getD i evz = e := ⟨_, rfl⟩
 rw [he] at hk ⊢
 obtain ⟨ev, hev⟩ : ∃ ev, l.getD (i + 1) evz = ev := ⟨_, rfl⟩
 rw [hev]
 dsimp only
 rw [if_neg (by simp)]
 have f0 : ¬ (false = true) := by simp
 rcases hk with ⟨h3, hs⟩ | ⟨h4, hs, ho⟩
 ·have a1 : ¬ e.kind = 2 := by omega
  have a2 : ¬ e.kind = 5 := by omega
  have a3 : ¬ (e.kind ≠ 3 ∧ (e.kind ≠ 4 ∨ e.ok = false)) := fun hh => hh.1 h3
  have a4 : ¬ e.kind = 4 := by omega
  rw [if_neg a1, if_neg a2, if_neg a3, if_pos h3, hs]
  simp only [if_true]
  obtain ⟨v, L, hL⟩ : ∃ v L, s.buf ++ [e.value] = v :: L := by
   cases s.buf with
   | nil => exact ⟨_, _, rfl⟩
   | cons a b => exact ⟨_, _, rfl⟩
  rw [hL]
  by_cases hm : 0 ≤ e.mate
  ·have a5 : e.kind = 4 ∨ 0 ≤ e.mate := .inr hm
   rw [if_pos a5, decide_eq_true hm]
  ·have a5 : ¬ (e.kind = 4 ∨ 0 ≤ e.mate) := by omega
   rw [if_neg a5, decide_eq_false hm]
   simp
 ·have a1 : ¬ e.kind = 2 := by omega
  have a2 : ¬ e.kind = 5 := by omega
  have a3 : ¬ (e.kind ≠ 3 ∧ (e.kind ≠ 4 ∨ e.ok = false)) := fun hh => hh.2.elim (fun h => h h4) (fun h => by rw [ho] at h; cases h)
  have a4 : ¬ e.kind = 3 := by omega
  have a5 : e.kind = 4 ∨ 0 ≤ e.mate := .inl h4
  rw [if_neg a1, if_neg a2, if_neg a3, if_neg a4, if_pos a5, hs]
  simp only [if_neg f0]
  by_cases hm : 0 ≤ e.mate
  ·rw [decide_eq_true hm]
   by_cases hl : i + 1 = l.length
   ·have a6 : ¬ (0 ≤ e.mate ∧ decide (i + 1 = l.length) = false) := fun hh => by simp [hl] at hh
    rw [if_neg a6, if_pos hl, if_pos hm, decide_eq_true hl]
    cases s.buf <;> simp
   ·have a6 : 0 ≤ e.mate ∧ decide (i + 1 = l.length) = false := ⟨hm, by simp [hl]⟩
    rw [if_pos a6, if_neg hl, if_pos hm]
    cases s.buf <;> simp
  ·have a6 : ¬ (0 ≤ e.mate ∧ decide (i + 1 = l.length) = false) := fun hh => hm hh.1
   rw [if_neg a6, if_neg hm, decide_eq_false hm]
   cases s.buf <;> simp
theorem made_keeps (r : RdrM) (e : Ev) : (madeF r e).2.closer = r.closer ∧ (e.kind ≠ 2 → (madeF r e).2.chans = r.chans) := by
 unfold madeF
 split
 ·rename_i h2
  split
  ·exact ⟨rfl, fun h => absurd h2 h⟩
  ·exact ⟨rfl, fun h => absurd h2 h⟩
 ·exact ⟨rfl, fun _ => rfl⟩
theorem served_keeps (r : RdrM) (p : Option Ev) (e : Ev) : (servedF r p e).2.chans = r.chans := by
 unfold servedF
 split
 ·rfl
 ·split <;> rfl
theorem chan_at (h : InvG l i r) (hch : r'.chans = r.chans) {c : Int} (h0 : 0 ≤ c) (hlt : c < makesR l i) : chanF r' c = some ⟨(insR l c i).size, (insR l c i).buf, (insR l c i).closed⟩ := by
 obtain ⟨n, rfl⟩ : ∃ n : Nat, c = n := ⟨c.toNat, by omega⟩
 unfold chanF
 rw [if_neg (by omega), hch, Int.toNat_natCast]
 exact h.ins n (by have := h.makes; omega)
theorem ordered_same (h : InvG l i r) (hi : i < l.length) (hr : Rt (l.getD i evz)) (hch : (l.getD i evz).kind ≠ 2 → r'.chans = r.chans) (hm : madeR l i = true) : (orderedF r' (nextF l i) (l.getD i evz)).1 = orderedR l i := by
 unfold orderedR orderedF
 have hts := take_same hi (insR l (l.getD i evz).chan i)
 unfold madeR at hm
 have hin : insR l (l.getD i evz).chan (i + 1) = insStep l (l.getD i evz).chan i (insR l (l.getD i evz).chan i) := rfl
 dsimp only
 rw [hin]
 obtain ⟨e, he⟩ : ∃ e, l.getD i evz = e := ⟨_, rfl⟩
 rw [he] at hr hch hm hts ⊢
 by_cases hk : e.kind ≠ 3 ∧ (e.kind ≠ 4 ∨ e.ok = false)
 ·rw [if_pos hk]
  split
  ·rfl
  ·rw [if_pos hk]
 ·have h2 : e.kind ≠ 2 := by omega
  rw [if_neg h2] at hm
  have h34 : e.kind = 3 ∨ e.kind = 4 := by omega
  have hc0 := hr.cc (by omega)
  rw [if_neg hk, chan_at h (hch h2) hc0 (by simpa using hm)]
  dsimp only
  rw [if_neg hk, hts ?_]
  rcases h34 with h3 | h4
  ·exact .inl ⟨h3, hr.s3 h3⟩
  ·refine .inr ⟨h4, hr.s4 h4, ?_⟩
   cases ho : e.ok
   ·exact absurd ⟨by omega, .inr ho⟩ hk
   ·rfl
theorem ordered_keeps (r : RdrM) (n : Option Int) (e : Ev) : (orderedF r n e).2.closer = r.closer ∧ (orderedF r n e).2.crew = r.crew ∧ (orderedF r n e).2.over = r.over ∧ (e.kind ≠ 3 → (e.kind ≠ 4 ∨ e.ok = false) → (orderedF r n e).2 = r) := by
 unfold orderedF
 split
 ·exact ⟨rfl, rfl, rfl, fun _ _ => rfl⟩
 ·split
  ·exact ⟨rfl, rfl, rfl, fun _ _ => rfl⟩
  ·rename_i hk
   exact ⟨rfl, rfl, rfl, fun a b => absurd ⟨a, b⟩ hk⟩
/-- A channel behind rule 5: as it was but for what is in it. -/
theorem ordered_chan (h : InvG l i r) (hch : r'.chans = r.chans) {e : Ev} {n : Option Int} (h0 : 0 ≤ e.chan) (hlt : e.chan < makesR l i) :
  ∃ L, chanF (orderedF r' n e).2 e.chan = some ⟨(insR l e.chan i).size, L, (insR l e.chan i).closed⟩ ∧ (e.kind = 4 ∧ e.ok = false → L = (insR l e.chan i).buf) := by
 have hc := chan_at h hch h0 hlt
 unfold orderedF
 rw [hc]
 dsimp only
 split
 ·exact ⟨_, hc, fun _ => rfl⟩
 ·rename_i hk
  refine ⟨(takeF ⟨(insR l e.chan i).size, (insR l e.chan i).buf, (insR l e.chan i).closed⟩ n e).2.buf, ?_, fun hh => absurd ⟨by omega, .inr hh.2⟩ hk⟩
  unfold chanF
  rw [if_neg (by omega)]
  dsimp only
  rw [hch, List.getElem?_set_self (by have := h.makes; omega)]
  unfold takeF
  dsimp only
  split <;> rfl
theorem closed_same (h : InvG l i r) (hr : Rt (l.getD i evz)) (hch : (l.getD i evz).kind ≠ 2 → r'.chans = r.chans) (hm : madeR l i = true) : (closedF (orderedF r' (nextF l i) (l.getD i evz)).2 (l.getD i evz)).1 = closedR l i := by
 unfold closedR
 unfold madeR at hm
 obtain ⟨n, hn⟩ : ∃ n, nextF l i = n := ⟨_, rfl⟩
 rw [hn]
 obtain ⟨e, he⟩ : ∃ e, l.getD i evz = e := ⟨_, rfl⟩
 rw [he] at hr hch hm ⊢
 dsimp only
 by_cases hk : e.kind < 3 ∨ 5 < e.kind
 ·rw [if_pos hk]
  unfold closedF
  split
  ·rfl
  ·have a1 : ¬ e.kind = 5 := by omega
   have a2 : ¬ (e.kind = 3 ∨ e.kind = 4 ∧ 0 ≤ e.mate) := by omega
   have a3 : ¬ (e.kind = 4 ∧ e.ok = false) := fun hh => by omega
   rw [if_neg a1, if_neg a2, if_neg a3]
 ·have h2 : e.kind ≠ 2 := by omega
  rw [if_neg h2] at hm
  rw [if_neg hk]
  obtain ⟨L, hL, hb⟩ := ordered_chan (n := n) h (hch h2) (hr.cc (by omega)) (by simpa using hm)
  unfold closedF
  rw [hL]
  dsimp only
  by_cases h5 : e.kind = 5
  ·have a3 : ¬ (e.kind = 4 ∧ e.ok = false) := fun hh => by omega
   have a4 : ¬ (e.kind = 4 ∧ e.mate < 0) := by omega
   rw [if_pos h5, if_neg a3, if_neg a4]
  ·rw [if_neg h5]
   by_cases h3 : e.kind = 3
   ·have a3 : ¬ (e.kind = 4 ∧ e.ok = false) := fun hh => by omega
    have a4 : ¬ (e.kind = 4 ∧ e.mate < 0) := by omega
    rw [if_pos (.inl h3), if_neg a3, if_neg a4]
   ·have h4 : e.kind = 4 := by omega
    by_cases ho : e.ok = false
    ·have hmm := hr.m4 h4 ho
     have a2 : ¬ (e.kind = 3 ∨ e.kind = 4 ∧ 0 ≤ e.mate) := by omega
     rw [if_neg a2, if_pos ⟨h4, ho⟩, if_pos ⟨h4, ho⟩, hb ⟨h4, ho⟩]
    ·have a3 : ¬ (e.kind = 4 ∧ e.ok = false) := fun hh => ho hh.2
     rw [if_neg a3, if_neg a3]
     by_cases hmm : 0 ≤ e.mate
     ·have a4 : ¬ (e.kind = 4 ∧ e.mate < 0) := by omega
      rw [if_pos (.inr ⟨h4, hmm⟩), if_neg a4]
     ·have a2 : ¬ (e.kind = 3 ∨ e.kind = 4 ∧ 0 ≤ e.mate) := by omega
      have a4 : e.kind = 4 ∧ e.mate < 0 := by omega
      rw [if_neg a2, if_pos a4]
end
end Go.Proofs.YtchkaaeoffmjnaaGreatDoor
