/- Texts of the proof, several in one file: EdgeF, EdgeK, OpenG, EdgeH. -/
import Derived.Test.YtoamjodmidbmbaaGreatDoorE21
import Derived.Test.YtoamjodmidbmbaaGreatDoorE09
import Derived.Test.YtoamjodmidbmbaaGreatDoorE05
import Derived.ProofKit
import Derived.OpenShut
import Derived.Deep.Slices
set_option linter.unusedVariables false
set_option linter.unusedSimpArgs false
namespace Go.Proofs.YtoamjodmidbmbaaGreatDoor
open Go.RowKit
set_option maxRecDepth 100000
theorem all_le {l : List Ev} (hr : rightF l = true) (hll : l.length ≤ 2000) : (allE l).length ≤ 100000000 := by
 obtain ⟨z1, z2, z3, z4⟩ := read_size (right_iff.1 hr) (Nat.le_refl l.length)
 have h := crossA_len (es := (readE l l.length).edges) (B := 2000) (fun c hc => by have := (z4 c hc).2.1; omega) (readE l l.length).chans.length (Nat.le_refl _)
 have e : (allE l).length = (rawE l).length := all_perm.length_eq
 rw [e]
 unfold rawE
 have hq : 2 * 2000 * (readE l l.length).chans.length ≤ 2 * 2000 * 2000 := Nat.mul_le_mul_left _ (by omega)
 omega
theorem e_ofl_no {w : World} {F : List Piece} {A : Piece} {lb lo lc : Nat} {l : List Ev} {r : Int} (hA : EvA A lb lo l) (hG : SpansA A) (h0 : 0 < l.length) (hll : l.length ≤ 2000) (hr : rightF l = false) (H : SL w (A :: F)) : Calls Tryz.prog 17 #[.slice (some ⟨lb, lo, none⟩) l.length lc, .int .i64 r] w fun o w' => o = .returned (.tuple #[.slice none 0 0, .int .i64 4]) ∧ SL w' (A :: F) := by
 refine calls_den (args := [_, _]) Tryz.func17 rfl (Nat.le_of_ble_eq_true (by kernel_rfl)) (by kernel_rfl) ?_
 refine ⟨?_⟩
 refine Nw.as #[.int .i64 r] 3 rfl H fun b3 w H => ?_
 refine ⟨?_⟩
 have h1 := H.pick [1, 0] 2 (by decide)
 simp only [pk, nth, pkA, pkB, pkC, pkD, pkE, pkF] at h1
 refine Cl.sl (by kernel_rfl) (e_all_no hA hG h0 hll hr h1) fun w H => ?_
 replace H := H.pick [1, 0] 2 (by decide)
 simp only [pk, nth, pkA, pkB, pkC, pkD, pkE, pkF] at H
 refine ⟨?_⟩
 refine Mn.pure (.func (.func 44) #[] #[.pointer (some ⟨b3, 0, none⟩)]) (by kernel_rfl) ?_
 have h1 := H
 refine Cl.by (by kernel_rfl) (e_delete (L := []) (sa := none) (c := 0) (Nat.zero_le _) (SL.slcNil 70 3 h1)) ?_
 rintro _ w ⟨zs, rfl, _, _, H⟩
 refine ⟨_, rfl, ?_⟩
 replace H := H.tl
 refine ret2 (.slice none 0 0) (.int .i64 4) rfl (by rfl) (by rfl) ?_
 exact ⟨rfl, H.pick [1] 2 (by decide)⟩
theorem e_ofl {w : World} {F : List Piece} {A : Piece} {lb lo lc : Nat} {l : List Ev} {r : Int} (hA : EvA A lb lo l) (hG : SpansA A) (h0 : 0 < l.length) (hll : l.length ≤ 2000) (hr : rightF l = true) (H : SL w (A :: F)) : Calls Tryz.prog 17 #[.slice (some ⟨lb, lo, none⟩) l.length lc, .int .i64 r] w fun o w' => ∃ xa xc zs, o = .returned (.tuple #[.slice xa ((allE l).filter (fun x : Edg => (x.rule : Int) == r)).length xc, .int .i64 0]) ∧ ((allE l).filter (fun x : Edg => (x.rule : Int) == r)).length ≤ (allE l).length ∧ zs.take (((allE l).filter (fun x : Edg => (x.rule : Int) == r)).length * 3) = ((allE l).filter (fun x : Edg => (x.rule : Int) == r)).flatMap Edg.cells ∧ SL w' (Slc 70 3 (.slice xa (allE l).length xc) (allE l).length zs :: A :: F) := by
 refine calls_den (args := [_, _]) Tryz.func17 rfl (Nat.le_of_ble_eq_true (by kernel_rfl)) (by kernel_rfl) ?_
 refine ⟨?_⟩
 refine Nw.as #[.int .i64 r] 3 rfl H fun b3 w H => ?_
 refine ⟨?_⟩
 have h1 := H.pick [1, 0] 2 (by decide)
 simp only [pk, nth, pkA, pkB, pkC, pkD, pkE, pkF] at h1
 refine Cl.by (by kernel_rfl) (e_all hA hG h0 hll hr h1) ?_
 rintro _ w ⟨xa, xc, rfl, H⟩
 refine ⟨_, rfl, ?_⟩
 replace H := H.pick [0, 2, 1] 3 (by decide)
 simp only [pk, nth, pkA, pkB, pkC, pkD, pkE, pkF] at H
 refine ⟨?_⟩
 refine Mn.pure (.func (.func 44) #[] #[.pointer (some ⟨b3, 0, none⟩)]) (by kernel_rfl) ?_
 have h1 := H
 refine Cl.by (by kernel_rfl) (e_delete (L := allE l) (by exact all_le hr hll) h1) ?_
 rintro _ w ⟨zs, rfl, hzl, hz, H⟩
 refine ⟨_, rfl, ?_⟩
 refine ret2 (.slice xa (((allE l).filter (fun x : Edg => (x.rule : Int) == r)).length) xc) (.int .i64 0) rfl (by rfl) (by rfl) ?_
 exact ⟨xa, xc, zs, rfl, hzl, hz, H.pick [0, 2] 3 (by decide)⟩
theorem e_ofl_nil {w : World} {F : List Piece} {la : Option Addr} {lc : Nat} {r : Int} (H : SL w F) : Calls Tryz.prog 17 #[.slice la 0 lc, .int .i64 r] w fun o w' => ∃ xa xc zs, o = .returned (.tuple #[.slice xa 0 xc, .int .i64 0]) ∧ SL w' (Slc 70 3 (.slice xa 0 xc) 0 zs :: F) := by
 refine calls_den (args := [_, _]) Tryz.func17 rfl (Nat.le_of_ble_eq_true (by kernel_rfl)) (by kernel_rfl) ?_
 refine ⟨?_⟩
 refine Nw.as #[.int .i64 r] 3 rfl H fun b3 w H => ?_
 refine ⟨?_⟩
 refine Cl.by (by kernel_rfl) (e_all_nil H) ?_
 rintro _ w ⟨xa, xc, rfl, H⟩
 refine ⟨_, rfl, ?_⟩
 refine ⟨?_⟩
 refine Mn.pure (.func (.func 44) #[] #[.pointer (some ⟨b3, 0, none⟩)]) (by kernel_rfl) ?_
 have h1 := H
 refine Cl.by (by kernel_rfl) (e_delete (L := []) (by exact Nat.zero_le _) h1) ?_
 rintro _ w ⟨zs, rfl, hzl, hz, H⟩
 refine ⟨_, rfl, ?_⟩
 refine ret2 (.slice xa 0 xc) (.int .i64 0) rfl (by rfl) (by rfl) ?_
 exact ⟨xa, xc, zs, rfl, H.pick [0] 2 (by decide)⟩
def hop (k a b : Int) : OpX := ⟨⟨k, a, b, [], false⟩, none, 0⟩
def handX (b7 b9 : Nat) : List ProgX := [⟨[hop 2 0 0, hop 1 1 0, hop 4 0 0], some ⟨b7, 0, none⟩, 3⟩, ⟨[hop 3 0 5], some ⟨b9, 0, none⟩, 1⟩]
def handS : ScrM := ⟨9, 9, [[⟨2, 0, 0, [], false⟩, ⟨1, 1, 0, [], false⟩, ⟨4, 0, 0, [], false⟩], [⟨3, 0, 5, [], false⟩]], [0, 0, 0, 0], []⟩
def handE : List Ev := [⟨2, 0, 0, -1, 0, -1, false, false⟩, ⟨1, 0, -1, -1, 1, 1, false, false⟩, ⟨6, 0, 0, -1, 0, -1, false, false⟩, ⟨3, 1, 0, -1, 5, 0, true, false⟩, ⟨7, 0, 0, -1, 5, 1, false, true⟩]
theorem hands_ver : verL handS (runL handS 5) = 4 := by kernel_rfl
theorem hands_tr : (runL handS 5).tr = handE := by kernel_rfl
section
variable {b7 b9 b10 b11 : Nat}
theorem row_on {S : Nat → Prop} {w : World} {b t : Nat} {cs : Array Value} (h : (row b cs t).on S w) {o : Nat} {v : Value} (hv : cs[o]? = some v) : w.cell? ⟨b, o, none⟩ = some v := row_cell h.2 o hv
theorem rd_none {w : World} {sz : Nat} : Rd w sz none 0 [] := ⟨by simp, Nat.zero_le _, fun h => absurd h (Nat.lt_irrefl 0)⟩
theorem hands_draws : Reader (all [row b10 #[.slice (some ⟨b7, 0, none⟩) 3 3, .slice (some ⟨b9, 0, none⟩) 1 1] 65, row b7 #[.int .i64 2, .int .i64 0, .int .i64 0, .slice none 0 0, .bool false, .int .i64 1, .int .i64 1, .int .i64 0, .slice none 0 0, .bool false, .int .i64 4, .int .i64 0, .int .i64 0, .slice none 0 0, .bool false] 64, row b9 #[.int .i64 3, .int .i64 0, .int .i64 5, .slice none 0 0, .bool false] 64, row b11 #[.int .i64 0, .int .i64 0, .int .i64 0, .int .i64 0] 3]) 1 none ([] : List Int).length (ints []) := fun _ _ _ => rd_none
theorem hands_plan : Reader (all [row b10 #[.slice (some ⟨b7, 0, none⟩) 3 3, .slice (some ⟨b9, 0, none⟩) 1 1] 65, row b7 #[.int .i64 2, .int .i64 0, .int .i64 0, .slice none 0 0, .bool false, .int .i64 1, .int .i64 1, .int .i64 0, .slice none 0 0, .bool false, .int .i64 4, .int .i64 0, .int .i64 0, .slice none 0 0, .bool false] 64, row b9 #[.int .i64 3, .int .i64 0, .int .i64 5, .slice none 0 0, .bool false] 64, row b11 #[.int .i64 0, .int .i64 0, .int .i64 0, .int .i64 0] 3]) 1 (some ⟨b11, 0, none⟩) ([0, 0, 0, 0] : List Int).length (ints [0, 0, 0, 0]) := by
 intro S w h
 obtain ⟨T, _, hT⟩ := SLs.at 3 h rfl
 refine ⟨rfl, by decide, fun _ => ⟨b11, 0, rfl, fun i u hu => row_on hT (by rw [Nat.zero_add]; simpa [ints] using hu)⟩⟩
theorem hands_scr : ScrA (all [row b10 #[.slice (some ⟨b7, 0, none⟩) 3 3, .slice (some ⟨b9, 0, none⟩) 1 1] 65, row b7 #[.int .i64 2, .int .i64 0, .int .i64 0, .slice none 0 0, .bool false, .int .i64 1, .int .i64 1, .int .i64 0, .slice none 0 0, .bool false, .int .i64 4, .int .i64 0, .int .i64 0, .slice none 0 0, .bool false] 64, row b9 #[.int .i64 3, .int .i64 0, .int .i64 5, .slice none 0 0, .bool false] 64, row b11 #[.int .i64 0, .int .i64 0, .int .i64 0, .int .i64 0] 3]) b10 0 (handX b7 b9) where
 prog := by
  intro S w h k p hk
  obtain ⟨T, _, hT⟩ := SLs.at 0 h rfl
  match k, hk with
  | 0, hk => injection hk with hk; subst hk; exact row_on hT rfl
  | 1, hk => injection hk with hk; subst hk; exact row_on hT rfl
 some_ := by
  intro k p hk _
  match k, hk with
  | 0, hk => injection hk with hk; subst hk; exact ⟨_, _, rfl⟩
  | 1, hk => injection hk with hk; subst hk; exact ⟨_, _, rfl⟩
 op := by
  intro S w h k p hk b2 o2 hpa j o hj i v hv
  match k, hk with
  | 0, hk =>
   obtain ⟨T, _, hT⟩ := SLs.at 1 h rfl
   injection hk with hk; subst hk
   injection hpa with hpa
   injection hpa with e1 e2
   subst e1 e2
   match j, hj with
   | 0, hj => injection hj with hj; subst hj; match i, hv with | 0, hv | 1, hv | 2, hv | 3, hv | 4, hv => exact row_on hT hv
   | 1, hj => injection hj with hj; subst hj; match i, hv with | 0, hv | 1, hv | 2, hv | 3, hv | 4, hv => exact row_on hT hv
   | 2, hj => injection hj with hj; subst hj; match i, hv with | 0, hv | 1, hv | 2, hv | 3, hv | 4, hv => exact row_on hT hv
  | 1, hk =>
   obtain ⟨T, _, hT⟩ := SLs.at 2 h rfl
   injection hk with hk; subst hk
   injection hpa with hpa
   injection hpa with e1 e2
   subst e1 e2
   match j, hj with
   | 0, hj => injection hj with hj; subst hj; match i, hv with | 0, hv | 1, hv | 2, hv | 3, hv | 4, hv => exact row_on hT hv
 cap := by
  intro k p hk
  match k, hk with
  | 0, hk => injection hk with hk; subst hk; exact Nat.le_refl 3
  | 1, hk => injection hk with hk; subst hk; exact Nat.le_refl 1
 case := by
  intro k p hk j o hj
  match k, hk with
  | 0, hk =>
   injection hk with hk; subst hk
   match j, hj with
   | 0, hj => injection hj with hj; subst hj; exact ⟨fun _ _ _ => rd_none, Nat.le_refl 0⟩
   | 1, hj => injection hj with hj; subst hj; exact ⟨fun _ _ _ => rd_none, Nat.le_refl 0⟩
   | 2, hj => injection hj with hj; subst hj; exact ⟨fun _ _ _ => rd_none, Nat.le_refl 0⟩
  | 1, hk =>
   injection hk with hk; subst hk
   match j, hj with
   | 0, hj => injection hj with hj; subst hj; exact ⟨fun _ _ _ => rd_none, Nat.le_refl 0⟩
end
theorem l_refrun {b7 b9 b10 b11 : Nat} {w : World} {F : List Piece} (H : SL w (row b10 #[.slice (some ⟨b7, 0, none⟩) 3 3, .slice (some ⟨b9, 0, none⟩) 1 1] 65 :: row b7 #[.int .i64 2, .int .i64 0, .int .i64 0, .slice none 0 0, .bool false, .int .i64 1, .int .i64 1, .int .i64 0, .slice none 0 0, .bool false, .int .i64 4, .int .i64 0, .int .i64 0, .slice none 0 0, .bool false] 64 :: row b9 #[.int .i64 3, .int .i64 0, .int .i64 5, .slice none 0 0, .bool false] 64 :: row b11 #[.int .i64 0, .int .i64 0, .int .i64 0, .int .i64 0] 3 :: F)) : Calls Tryz.prog 35 #[.agg #[.int .i64 9, .int .i64 9, .slice (some ⟨b10, 0, none⟩) 2 2, .slice (some ⟨b11, 0, none⟩) 4 4, .slice none 0 0]] w fun o w' => ∃ tb kc, o = .returned (.agg #[.slice (some ⟨tb, 0, none⟩) 5 kc, .int .i64 4]) ∧ SL w' (Slc 53 8 (.slice (some ⟨tb, 0, none⟩) 5 kc) 5 (handE.flatMap Ev.cells) :: F) := by
 have h2 : SL w ((all [row b10 #[.slice (some ⟨b7, 0, none⟩) 3 3, .slice (some ⟨b9, 0, none⟩) 1 1] 65, row b7 #[.int .i64 2, .int .i64 0, .int .i64 0, .slice none 0 0, .bool false, .int .i64 1, .int .i64 1, .int .i64 0, .slice none 0 0, .bool false, .int .i64 4, .int .i64 0, .int .i64 0, .slice none 0 0, .bool false] 64, row b9 #[.int .i64 3, .int .i64 0, .int .i64 5, .slice none 0 0, .bool false] 64, row b11 #[.int .i64 0, .int .i64 0, .int .i64 0, .int .i64 0] 3]) :: F) := SL.all.2 H
 have hrun := r_run13 (t := 9) (m := 9) (X := handX b7 b9) (pl := [0, 0, 0, 0]) (dr := []) (pc := 2) (lc := 4) (dc := 0) (fun _ => ⟨b10, 0, rfl, hands_scr⟩) hands_plan hands_draws (show checkE handS = 0 by decide) h2
 refine Calls.mono hrun ?_
 rintro o w' ⟨ka, kc, rfl, H'⟩
 have ev : verL ⟨9, 9, progsM (handX b7 b9), [0, 0, 0, 0], []⟩ (runL ⟨9, 9, progsM (handX b7 b9), [0, 0, 0, 0], []⟩ (([0, 0, 0, 0] : List Int).length + 1)) = 4 := hands_ver
 have et : (runL ⟨9, 9, progsM (handX b7 b9), [0, 0, 0, 0], []⟩ (([0, 0, 0, 0] : List Int).length + 1)).tr = handE := hands_tr
 rw [et] at H'
 rw [et, ev]
 obtain ⟨tb, rfl⟩ := SL.slcAddr H' (by decide)
 exact ⟨tb, kc, rfl, H'.pick [0] 2 (by decide)⟩
theorem EvA.fst5 {R O : Piece} {b off : Nat} {l : List Ev} (h : EvA R b off l) : EvA (all [R, O]) b off l :=
 ⟨fun S w hS => by
  obtain ⟨T, _, h2, _⟩ := (hS : SLs w S [R, O])
  exact h.at_ T w h2⟩
theorem SpansA.snd5 {R O : Piece} (h : SpansA O) : SpansA (all [R, O]) := fun w H => h w ((SL.all (L := [R, O])).1 H).tl
theorem hands_right : rightF handE = true := by kernel_rfl
theorem hands_n : (allE handE).length = 6 := by kernel_rfl
theorem hands_three : (allE handE).filter (fun x : Edg => (x.rule : Int) == 3) = [⟨3, 4, 3⟩] := by kernel_rfl
theorem hands_five : (allE handE).filter (fun x : Edg => (x.rule : Int) == 5) = [⟨2, 3, 5⟩] := by kernel_rfl
theorem take_atE {zs ys : List Value} {m : Nat} (h : zs.take m = ys) (i : Nat) (hi : i < m) : zs[i]? = ys[i]? := by rw [← h, List.getElem?_take, if_pos hi]
set_option maxHeartbeats 2000000 in
theorem l_five {w : World} {F : List Piece} {O : Piece} (hG : SpansA O) (H : SL w (O :: F)) : Calls Tryz.prog 12 #[] w fun o w' => o = .returned (.bool true) ∧ SL w' (O :: F) := by
 refine calls_den (args := []) Tryz.func12 rfl (Nat.le_of_ble_eq_true (by kernel_rfl)) (by kernel_rfl) ?_
 refine ⟨?_⟩
 refine ⟨?_⟩
 refine Mn.pure (.agg #[.int .i64 2, .int .i64 0, .int .i64 0, .slice none 0 0, .bool false]) (by kernel_rfl) ?_
 refine Mn.pure (.agg #[.int .i64 1, .int .i64 1, .int .i64 0, .slice none 0 0, .bool false]) (by kernel_rfl) ?_
 refine Mn.pure (.agg #[.int .i64 4, .int .i64 0, .int .i64 0, .slice none 0 0, .bool false]) (by kernel_rfl) ?_
 refine Mn.new (fun b => .slice (some ⟨b, 0, none⟩) 3 3) #[.int .i64 2, .int .i64 0, .int .i64 0, .slice none 0 0, .bool false, .int .i64 1, .int .i64 1, .int .i64 0, .slice none 0 0, .bool false, .int .i64 4, .int .i64 0, .int .i64 0, .slice none 0 0, .bool false] 64 (by kernel_rfl) H fun b9 w H => ?_
 refine Mn.pure (.agg #[.int .i64 3, .int .i64 0, .int .i64 5, .slice none 0 0, .bool false]) (by kernel_rfl) ?_
 refine Mn.new (fun b => .slice (some ⟨b, 0, none⟩) 1 1) #[.int .i64 3, .int .i64 0, .int .i64 5, .slice none 0 0, .bool false] 64 (by kernel_rfl) H fun b11 w H => ?_
 refine Mn.new (fun b => .slice (some ⟨b, 0, none⟩) 2 2) #[.slice (some ⟨b9, 0, none⟩) 3 3, .slice (some ⟨b11, 0, none⟩) 1 1] 65 (by kernel_rfl) H fun b12 w H => ?_
 refine Mn.new (fun b => .slice (some ⟨b, 0, none⟩) 4 4) #[.int .i64 0, .int .i64 0, .int .i64 0, .int .i64 0] 3 (by kernel_rfl) H fun b13 w H => ?_
 refine Mn.pure (.agg #[.int .i64 9, .int .i64 9, .slice (some ⟨b12, 0, none⟩) 2 2, .slice (some ⟨b13, 0, none⟩) 4 4, .slice none 0 0]) (by kernel_rfl) ?_
 have h1 := H.pick [1, 3, 2, 0, 4] 5 (by decide)
 simp only [pk, nth, pkA, pkB, pkC, pkD, pkE, pkF] at h1
 refine Cl.by (by kernel_rfl) (l_refrun h1) ?_
 rintro _ w ⟨tb, kc, rfl, H⟩
 refine ⟨_, rfl, ?_⟩
 refine ⟨?_⟩
 have h1 := H
 have K := e_ofl (r := 3) (lc := kc) (l := handE) (EvA.fst5 (O := O) (EvA.slc (te := 53) (b := tb) (c := kc) (l := handE))) (SpansA.snd5 hG) (by decide) (by decide) hands_right ((SL.all (L := [Slc 53 8 (.slice (some ⟨tb, 0, none⟩) 5 kc) 5 (handE.flatMap Ev.cells), O])).2 h1)
 rw [hands_three, hands_n] at K
 refine Cl.by (by kernel_rfl) K ?_
 rintro _ w ⟨xa3, xc3, zs3, rfl, _, hz3, H⟩
 refine ⟨_, rfl, ?_⟩
 have hob := SL.slcAddr H (by decide)
 obtain ⟨xb3, rfl⟩ := hob
 replace H := (SL.all (L := [Slc 53 8 (.slice (some ⟨tb, 0, none⟩) 5 kc) 5 (handE.flatMap Ev.cells), O])).1 H.up1
 simp only [List.cons_append, List.nil_append] at H
 refine ⟨?_⟩
 have h1 := H
 have K := e_ofl (r := 5) (lc := kc) (l := handE) (EvA.fst5 (O := O) (EvA.slc (te := 53) (b := tb) (c := kc) (l := handE))) (SpansA.snd5 hG) (by decide) (by decide) hands_right ((SL.all (L := [Slc 53 8 (.slice (some ⟨tb, 0, none⟩) 5 kc) 5 (handE.flatMap Ev.cells), O])).2 h1)
 rw [hands_five, hands_n] at K
 refine Cl.by (by kernel_rfl) K ?_
 rintro _ w ⟨xa5, xc5, zs5, rfl, _, hz5, H⟩
 refine ⟨_, rfl, ?_⟩
 have hob := SL.slcAddr H (by decide)
 obtain ⟨xb5, rfl⟩ := hob
 replace H := (SL.all (L := [Slc 53 8 (.slice (some ⟨tb, 0, none⟩) 5 kc) 5 (handE.flatMap Ev.cells), O])).1 H.up1
 simp only [List.cons_append, List.nil_append] at H
 refine ⟨?_⟩
 refine BB.yes rfl (BB.yes rfl (BB.yes rfl (BB.yes rfl (Ix.at0 0 3 (by kernel_rfl) rfl (by decide) ?_))))
 refine H.ldS 3 rfl (v := .int .i64 3) ((take_atE hz3 0 (by decide)).trans rfl) (H.ldS 3 rfl (v := .int .i64 4) ((take_atE hz3 1 (by decide)).trans rfl) (H.ldS 3 rfl (v := .int .i64 3) ((take_atE hz3 2 (by decide)).trans rfl) (Mn.pure (.agg #[.int .i64 3, .int .i64 4, .int .i64 3]) (by kernel_rfl) ?_)))
 refine Mn.pure (.bool true) (by kernel_rfl) ?_
 refine Ix.at0 0 3 (by kernel_rfl) rfl (by decide) ?_
 refine H.ldS 2 rfl (v := .int .i64 2) ((take_atE hz5 0 (by decide)).trans rfl) (H.ldS 2 rfl (v := .int .i64 3) ((take_atE hz5 1 (by decide)).trans rfl) (H.ldS 2 rfl (v := .int .i64 5) ((take_atE hz5 2 (by decide)).trans rfl) (Mn.pure (.agg #[.int .i64 2, .int .i64 3, .int .i64 5]) (by kernel_rfl) ?_)))
 refine Mn.pure (.bool true) (by kernel_rfl) ?_
 refine ret1 (.bool true) rfl (by rfl) ?_
 exact ⟨rfl, H.pick [1] 4 (by decide)⟩
end Go.Proofs.YtoamjodmidbmbaaGreatDoor
namespace Go.Proofs.YtoamjodmidbmbaaGreatDoor
open Go.RowKit
set_option maxRecDepth 100000
theorem f_chk_nil {w : World} {F : List Piece} {la : Option Addr} {lc : Nat} (H : SL w F) : Calls Tryz.prog 41 #[.slice la 0 lc] w fun o w' => o = .returned (.agg #[.int .i64 0, .int .i64 0]) ∧ SL w' F := by
 refine calls_den (args := [_]) Tryz.func41 rfl (Nat.le_of_ble_eq_true (by kernel_rfl)) (by kernel_rfl) ?_
 refine ⟨Nw.as #[.int .i64 0, .int .i64 0] 83 rfl H fun b2 w H => ?_⟩
 refine ⟨⟨den.loop (ι := Nat) [(3, 3), (6, 51)] (by kernel_rfl) (fun i => [(6, .int .i64 0)]) (fun i w => i = 0 ∧ SL w (row b2 #[.int .i64 0, .int .i64 0] 83 :: F)) (fun i => 0) 0 ⟨rfl, trivial⟩ ⟨rfl, H⟩ ?_⟩⟩
 rintro i s w ⟨rfl, H⟩
 refine ⟨BB.no rfl ?_⟩
 refine Cn.no (⟨BB.no rfl ?_⟩)
 refine Cn.no (⟨Mn.pure (.agg #[.int .i64 0, .int .i64 0]) (by kernel_rfl) ?_⟩)
 refine H.st0 (cs' := #[.int .i64 0, .int .i64 0]) rfl rfl rfl fun w H => ?_
 refine H.st0 (cs' := #[.int .i64 0, .int .i64 0]) rfl rfl rfl fun w H => ?_
 refine retC H 0 rfl rfl (by rfl) (by kernel_rfl) (by kernel_rfl) ?_
 exact ⟨rfl, H.tl⟩
theorem f_right_nil {w : World} {F : List Piece} {la : Option Addr} {lc : Nat} (H : SL w F) : Calls Tryz.prog 14 #[.slice la 0 lc] w fun o w' => o = .returned (.bool true) ∧ SL w' F := by
 refine calls_den (args := [_]) Tryz.func14 rfl (Nat.le_of_ble_eq_true (by kernel_rfl)) (by kernel_rfl) ?_
 refine ⟨⟨Cl.sl (by kernel_rfl) (f_chk_nil H) fun w H => ?_⟩⟩
 refine Nw.as #[.int .i64 0, .int .i64 0] 83 rfl H fun b3 w H => ?_
 refine H.st0 (cs' := #[.int .i64 0, .int .i64 0]) rfl rfl rfl fun w H => ?_
 refine H.st0 (cs' := #[.int .i64 0, .int .i64 0]) rfl rfl rfl fun w H => ?_
 refine ⟨H.ldi 0 rfl (v := .int .i64 0) rfl ?_⟩
 refine BB.yes rfl (ret1 (.bool true) rfl (by rfl) ?_)
 exact ⟨rfl, H.tl⟩
def refR (l : List Ev) (t f : Nat) : Nat → List Edg
 | 0 => []
 | r + 1 => refR l t f r ++ (if isF l f t (r + 1) = true then [⟨f, t, r + 1⟩] else [])
def refFr (l : List Ev) (t : Nat) : Nat → List Edg
 | 0 => []
 | f + 1 => refFr l t f ++ refR l t f 6
def refT (l : List Ev) : Nat → List Edg
 | 0 => []
 | t + 1 => refT l t ++ refFr l t t
theorem refR_len {l : List Ev} {t f : Nat} : ∀ {j : Nat}, (refR l t f j).length ≤ j
 | 0 => Nat.le_refl _
 | j + 1 => by
  have := refR_len (l := l) (t := t) (f := f) (j := j)
  rw [refR, List.length_append]
  split
  ·rw [List.length_cons, List.length_nil]; omega
  ·rw [List.length_nil]; omega
theorem refFr_len {l : List Ev} {t : Nat} : ∀ {f : Nat}, (refFr l t f).length ≤ 6 * f
 | 0 => Nat.le_refl _
 | f + 1 => by
  have := refFr_len (l := l) (t := t) (f := f)
  have := refR_len (l := l) (t := t) (f := f) (j := 6)
  rw [refFr, List.length_append]
  omega
theorem refT_len {l : List Ev} : ∀ {t : Nat}, t ≤ 100 → (refT l t).length ≤ 600 * t
 | 0, _ => Nat.le_refl _
 | t + 1, h => by
  have := refT_len (l := l) (t := t) (by omega)
  have := refFr_len (l := l) (t := t) (f := t)
  rw [refT, List.length_append]
  omega
theorem refR_is {l : List Ev} {t f : Nat} : refR l t f 6 = [1, 2, 3, 4, 5, 6].filterMap fun r => if isF l f t r = true then some ⟨f, t, r⟩ else none := by
 simp only [refR, List.filterMap_cons, List.filterMap_nil, List.nil_append]
 cases isF l f t 1 <;> cases isF l f t 2 <;> cases isF l f t 3 <;> cases isF l f t 4 <;> cases isF l f t 5 <;> cases isF l f t 6 <;> rfl
theorem refFr_is {l : List Ev} {t : Nat} : ∀ n, refFr l t n = (List.range n).flatMap fun f => [1, 2, 3, 4, 5, 6].filterMap fun r => if isF l f t r = true then some ⟨f, t, r⟩ else none
 | 0 => rfl
 | n + 1 => by rw [refFr, refFr_is n, List.range_succ, List.flatMap_append, List.flatMap_singleton, refR_is]
theorem refT_up {l : List Ev} : ∀ n, refT l n = (List.range n).flatMap fun t => (List.range t).flatMap fun f => [1, 2, 3, 4, 5, 6].filterMap fun r => if isF l f t r = true then some ⟨f, t, r⟩ else none
 | 0 => rfl
 | n + 1 => by rw [refT, refT_up n, List.range_succ, List.flatMap_append, List.flatMap_singleton, refFr_is]
theorem refT_is {l : List Ev} : refT l l.length = refE l := refT_up _
set_option maxHeartbeats 1000000 in
theorem f_all24 {w : World} {F : List Piece} {A : Piece} {lb lo lc : Nat} {l : List Ev} (hA : EvA A lb lo l) (hR : RtL l) (hll : l.length ≤ 100) (H : SL w (A :: F)) : Calls Tryz.prog 16 #[.slice (some ⟨lb, lo, none⟩) l.length lc] w fun o w' => ∃ ya yc, o = .returned (.slice ya (refE l).length yc) ∧ SL w' (Slc 36 3 (.slice ya (refE l).length yc) (refE l).length ((refE l).flatMap Edg.cells) :: A :: F) := by
 refine calls_den (args := [_]) Tryz.func16 rfl (Nat.le_of_ble_eq_true (by kernel_rfl)) (by kernel_rfl) ?_
 refine ⟨⟨⟨⟨?_⟩⟩⟩⟩
 have q := SL.slcNil 36 3 (H)
 refine den.loop (ι := Nat × Value) [(3, 7), (10, 33)] (by kernel_rfl) (fun (t, rv) => [(3, rv), (10, .int .i64 ↑t)]) (fun (t, rv) w => t ≤ l.length ∧ SL w (Slc 36 3 rv (refT l t).length ((refT l t).flatMap Edg.cells) :: A :: F)) (fun (t, rv) => l.length - t) (0, (.slice none 0 0)) ⟨rfl, rfl, trivial⟩ ⟨Nat.zero_le _, q⟩ ?_
 rintro ⟨t, rv⟩ s w ⟨ht0, H⟩
 have hob := Nat.lt_or_ge t l.length
 rcases hob with ht | ht
 ·have hob := SL.slcForm H
  obtain ⟨ra, rc, rfl⟩ := hob
  have hl1 := refT_len (l := l) (t := t) (by omega)
  refine ⟨BB.yes (decide_eq_true (by omega)) ?_⟩
  refine Cn.yes (⟨⟨⟨⟨?_⟩⟩⟩⟩)
  have q : SL w (Slc 36 3 (.slice ra ((refT l t).length) rc) (refT l t ++ refFr l t 0).length ((refT l t ++ refFr l t 0).flatMap Edg.cells) :: A :: F) := by
   rw [show refT l t ++ refFr l t 0 = refT l t from List.append_nil _]
   exact H
  refine den.loop (ι := Nat × Value) [(3, 3), (5, 7), (13, 32)] (by kernel_rfl) (fun (f, rv) => [(3, rv), (5, .int .i64 ↑f)]) (fun (f, rv) w => f ≤ t ∧ SL w (Slc 36 3 rv (refT l t ++ refFr l t f).length ((refT l t ++ refFr l t f).flatMap Edg.cells) :: A :: F)) (fun (f, rv) => t - f) (0, (.slice ra ((refT l t).length) rc)) ⟨rfl, rfl, trivial⟩ ⟨Nat.zero_le _, q⟩ ?_
  rintro ⟨f, rv⟩ s w ⟨hf0, H⟩
  have hob := Nat.lt_or_ge f t
  rcases hob with hf | hf
  ·have hob := SL.slcForm H
   obtain ⟨ra, rc, rfl⟩ := hob
   have hl2 := refFr_len (l := l) (t := t) (f := f)
   refine ⟨BB.yes (decide_eq_true (by omega)) ?_⟩
   refine Cn.yes (⟨⟨⟨?_⟩⟩⟩)
   have q : SL w (Slc 36 3 (.slice ra ((refT l t ++ refFr l t f).length) rc) (refT l t ++ refFr l t f ++ refR l t f 0).length ((refT l t ++ refFr l t f ++ refR l t f 0).flatMap Edg.cells) :: A :: F) := by
    rw [show refT l t ++ refFr l t f ++ refR l t f 0 = refT l t ++ refFr l t f from List.append_nil _]
    exact H
   refine den.loop (ι := Nat × Value) [(3, 3), (6, 7), (18, 32)] (by kernel_rfl) (fun (j, rv) => [(3, rv), (6, .int .i64 (↑j + 1))]) (fun (j, rv) w => j ≤ 6 ∧ SL w (Slc 36 3 rv (refT l t ++ refFr l t f ++ refR l t f j).length ((refT l t ++ refFr l t f ++ refR l t f j).flatMap Edg.cells) :: A :: F)) (fun (j, rv) => 6 - j) (0, (.slice ra ((refT l t ++ refFr l t f).length) rc)) ⟨rfl, rfl, trivial⟩ ⟨Nat.zero_le _, q⟩ ?_
   rintro ⟨j, rv⟩ s w ⟨hj0, H⟩
   have hob := Nat.lt_or_ge j 6
   rcases hob with hj | hj
   ·have hob := SL.slcForm H
    obtain ⟨ra, rc, rfl⟩ := hob
    have hl3 := refR_len (l := l) (t := t) (f := f) (j := j)
    have hlx : (refT l t ++ refFr l t f ++ refR l t f j).length ≤ 100000 := by rw [List.length_append, List.length_append]; omega
    refine ⟨BB.yes (decide_eq_true (by omega)) ?_⟩
    refine Cn.yes (⟨⟨Mn.pure (.agg #[.int .i64 ↑f, .int .i64 ↑t, .int .i64 (↑j + 1)]) (by kernel_rfl) ?_⟩⟩)
    refine Nw.as #[.int .i64 0, .int .i64 0, .int .i64 0] 36 rfl H fun b7 w H => ?_
    refine H.st0 (cs' := #[.int .i64 ↑f, .int .i64 0, .int .i64 0]) rfl rfl rfl fun w H => ?_
    refine H.st0 (cs' := #[.int .i64 ↑f, .int .i64 ↑t, .int .i64 0]) rfl rfl rfl fun w H => ?_
    refine H.st0 (cs' := #[.int .i64 ↑f, .int .i64 ↑t, .int .i64 (↑j + 1)]) rfl rfl rfl fun w H => ?_
    refine ⟨H.ldi 0 rfl (v := .int .i64 ↑f) rfl ?_⟩
    refine H.ldi 0 rfl (v := .int .i64 ↑t) rfl (H.ldi 0 rfl (v := .int .i64 (↑j + 1)) rfl ?_)
    have h1 := H.pick [2, 0, 1] 3 (by decide)
    simp only [pk, nth, pkA, pkB, pkC, pkD, pkE, pkF] at h1
    have K := f_is (f := f) (t := t) (r := j + 1) (lc := lc) hA hR hf ht (by omega) (by omega) h1
    have hob : ∃ bq0 : Bool, isF l f t (j + 1) = bq0 := ⟨_, rfl⟩
    obtain ⟨bq, hb⟩ := hob
    cases bq
    ·rw [hb] at K
     refine Cl.sl (by kernel_rfl) K fun w H => ?_
     replace H := H.pick [1, 2, 0] 3 (by decide)
     simp only [pk, nth, pkA, pkB, pkC, pkD, pkE, pkF] at H
     refine BB.no rfl (Cn.no (⟨IW.by (wrap_id (n := (↑j + 1) + 1) (by omega) (by omega)) ?_⟩))
     have q : SL w (Slc 36 3 (.slice ra ((refT l t ++ refFr l t f ++ refR l t f j).length) rc) (refT l t ++ refFr l t f ++ refR l t f (j + 1)).length ((refT l t ++ refFr l t f ++ refR l t f (j + 1)).flatMap Edg.cells) :: A :: F) := by
      rw [show refT l t ++ refFr l t f ++ refR l t f (j + 1) = (refT l t ++ refFr l t f ++ refR l t f j) by rw [refR, if_neg (by rw [hb]; decide), List.append_nil]]
      exact H.pick [1, 2] 3 (by decide)
     exact ⟨(j + 1, (.slice ra ((refT l t ++ refFr l t f ++ refR l t f j).length) rc)), ⟨rfl, rfl, trivial⟩, ⟨(by omega : j + 1 ≤ 6), q⟩, (show 6 - (j + 1) < 6 - j by omega)⟩
    rw [hb] at K
    refine Cl.sl (by kernel_rfl) K fun w H => ?_
    replace H := H.pick [1, 2, 0] 3 (by decide)
    simp only [pk, nth, pkA, pkB, pkC, pkD, pkE, pkF] at H
    refine BB.yes rfl (Cn.yes (⟨H.ldi 0 rfl (v := .int .i64 ↑f) rfl ?_⟩))
    refine H.ldi 0 rfl (v := .int .i64 ↑t) rfl (H.ldi 0 rfl (v := .int .i64 (↑j + 1)) rfl (Mn.new (fun b => .slice (some ⟨b, 0, none⟩) 1 1) #[.int .i64 ↑f, .int .i64 ↑t, .int .i64 (↑j + 1)] 36 (by kernel_rfl) H fun b31 w H => ?_))
    refine SL.appS H.up2 (.tmp 29) (.tmp 31) 30 (.agg #[.int .i64 0, .int .i64 0, .int .i64 0]) 24 (by rfl) (by kernel_rfl) (by kernel_rfl) (by rfl) (by decide) (by rfl) (some ⟨b31, 0, none⟩) 1 1 [.int .i64 ↑f, .int .i64 ↑t, .int .i64 (↑j + 1)] (by rfl) (H.rdRow 0 rfl (by rfl) (by decide)) (by rfl) (by omega) (by decide) (by decide) fun g1 c1 w H => ?_
    refine ⟨IW.by (wrap_id (n := (↑j + 1) + 1) (by omega) (by omega)) ?_⟩
    have q : SL w (Slc 36 3 (.slice (some ⟨g1, 0, none⟩) ((refT l t ++ refFr l t f ++ refR l t f j).length + 1) c1) (refT l t ++ refFr l t f ++ refR l t f (j + 1)).length ((refT l t ++ refFr l t f ++ refR l t f (j + 1)).flatMap Edg.cells) :: A :: F) := by
     rw [show refT l t ++ refFr l t f ++ refR l t f (j + 1) = (refT l t ++ refFr l t f ++ refR l t f j) ++ [⟨f, t, j + 1⟩] by rw [refR, if_pos hb, ← List.append_assoc], List.flatMap_append, show ((refT l t ++ refFr l t f ++ refR l t f j) ++ [(⟨f, t, j + 1⟩ : Edg)]).length = (refT l t ++ refFr l t f ++ refR l t f j).length + 1 by rw [List.length_append]; rfl]
     exact H.pick [0, 3] 4 (by decide)
    exact ⟨(j + 1, (.slice (some ⟨g1, 0, none⟩) ((refT l t ++ refFr l t f ++ refR l t f j).length + 1) c1)), ⟨rfl, rfl, trivial⟩, ⟨(by omega : j + 1 ≤ 6), q⟩, (show 6 - (j + 1) < 6 - j by omega)⟩
   have hob : j = 6 := by omega
   obtain rfl := hob
   have hob := SL.slcForm H
   obtain ⟨ra, rc, rfl⟩ := hob
   refine ⟨BB.no (decide_eq_false (by omega)) ?_⟩
   refine Cn.no (⟨IW.by (wrap_id (n := ↑f + 1) (by omega) (by omega)) ?_⟩)
   have q : SL w (Slc 36 3 (.slice ra ((refT l t ++ refFr l t f ++ refR l t f 6).length) rc) (refT l t ++ refFr l t (f + 1)).length ((refT l t ++ refFr l t (f + 1)).flatMap Edg.cells) :: A :: F) := by
    rw [refFr, ← List.append_assoc]
    exact H
   exact ⟨(f + 1, (.slice ra ((refT l t ++ refFr l t f ++ refR l t f 6).length) rc)), ⟨rfl, rfl, trivial⟩, ⟨(by omega : f + 1 ≤ t), q⟩, (show t - (f + 1) < t - f by omega)⟩
  have hob : t = f := by omega
  obtain rfl := hob
  have hob := SL.slcForm H
  obtain ⟨ra, rc, rfl⟩ := hob
  refine ⟨BB.no (decide_eq_false (by omega)) ?_⟩
  refine Cn.no (⟨IW.by (wrap_id (n := ↑t + 1) (by omega) (by omega)) ?_⟩)
  have q : SL w (Slc 36 3 (.slice ra ((refT l t ++ refFr l t t).length) rc) (refT l (t + 1)).length ((refT l (t + 1)).flatMap Edg.cells) :: A :: F) := by
   skip
   exact H
  exact ⟨(t + 1, (.slice ra ((refT l t ++ refFr l t t).length) rc)), ⟨rfl, rfl, trivial⟩, ⟨(by omega : t + 1 ≤ l.length), q⟩, (show l.length - (t + 1) < l.length - t by omega)⟩
 have hob : t = l.length := by omega
 obtain rfl := hob
 have hob := SL.slcForm H
 obtain ⟨ra, rc, rfl⟩ := hob
 refine ⟨BB.no (decide_eq_false (by omega)) ?_⟩
 refine Cn.no (⟨ret1 (.slice ra ((refT l l.length).length) rc) rfl (by rfl) ?_⟩)
 rw [← refT_is]
 exact ⟨ra, rc, rfl, H⟩
theorem f_all24_nil {w : World} {F : List Piece} {la : Option Addr} {lc : Nat} (H : SL w F) : Calls Tryz.prog 16 #[.slice la 0 lc] w fun o w' => ∃ ya yc, o = .returned (.slice ya 0 yc) ∧ SL w' (Slc 36 3 (.slice ya 0 yc) 0 [] :: F) := by
 refine calls_den (args := [_]) Tryz.func16 rfl (Nat.le_of_ble_eq_true (by kernel_rfl)) (by kernel_rfl) ?_
 refine ⟨⟨⟨⟨?_⟩⟩⟩⟩
 have q := SL.slcNil 36 3 (H)
 refine den.loop (ι := Nat × Value) [(3, 7), (10, 33)] (by kernel_rfl) (fun (t, rv) => [(3, rv), (10, .int .i64 ↑t)]) (fun (t, rv) w => t ≤ 0 ∧ SL w (Slc 36 3 rv (refT [] t).length ((refT [] t).flatMap Edg.cells) :: F)) (fun (t, rv) => 0 - t) (0, (.slice none 0 0)) ⟨rfl, rfl, trivial⟩ ⟨Nat.zero_le _, q⟩ ?_
 rintro ⟨t, rv⟩ s w ⟨ht0, H⟩
 have hob : t = 0 := by omega
 obtain rfl := hob
 have hob := SL.slcForm H
 obtain ⟨ra, rc, rfl⟩ := hob
 refine ⟨BB.no rfl ?_⟩
 refine Cn.no (⟨ret1 (.slice ra ((refT [] 0).length) rc) rfl (by rfl) ?_⟩)
 exact ⟨ra, rc, rfl, H⟩
theorem l_same {w : World} {F : List Piece} {xa ya : Option Addr} {N xc yc : Nat} {zs : List Value} {L : List Edg} (hz : zs.take (L.length * 3) = L.flatMap Edg.cells) (hN : L.length ≤ N) (hn : L.length ≤ 100000000) (H : SL w (Slc 70 3 (.slice xa N xc) N zs :: Slc 36 3 (.slice ya L.length yc) L.length (L.flatMap Edg.cells) :: F)) : Calls Tryz.prog 15 #[.slice xa L.length xc, .slice ya L.length yc] w fun o w' => o = .returned (.bool true) ∧ SL w' (Slc 70 3 (.slice xa N xc) N zs :: Slc 36 3 (.slice ya L.length yc) L.length (L.flatMap Edg.cells) :: F) := by
 refine calls_den (args := [_, _]) Tryz.func15 rfl (Nat.le_of_ble_eq_true (by kernel_rfl)) (by kernel_rfl) ?_
 refine ⟨⟨BB.no (bne_self_eq_false _) ?_⟩⟩
 refine Cn.no (⟨⟨den.loop (ι := Nat) [(4, 5), (13, 53)] (by kernel_rfl) (fun i => [(13, .int .i64 ↑i)]) (fun i w => i ≤ L.length ∧ SL w (Slc 70 3 (.slice xa N xc) N zs :: Slc 36 3 (.slice ya L.length yc) L.length (L.flatMap Edg.cells) :: F)) (fun i => L.length - i) 0 ⟨rfl, trivial⟩ ⟨Nat.zero_le _, H⟩ ?_⟩⟩)
 rintro i s w ⟨hi0, H⟩
 have hob := Nat.lt_or_ge i L.length
 rcases hob with hi | hi
 ·have hob : ∃ z, L[i]? = some z := ⟨_, List.getElem?_eq_getElem hi⟩
  obtain ⟨z, hz1⟩ := hob
  have hob := SL.slcAddr H (by omega)
  obtain ⟨xb, rfl⟩ := hob
  have hob := SL.slcAddr H.up1 (by omega)
  obtain ⟨yb, rfl⟩ := hob
  refine ⟨BB.yes (decide_eq_true (by omega)) ?_⟩
  refine Cn.yes (⟨⟨⟨Drw.of [(0, true), (1, true), (2, true), (3, true), (4, true), (5, true), (6, true), (7, true), (8, true), (9, true), (10, true), (11, true), (12, true), (13, true), (14, true), (15, true), (16, true), (17, true), (18, true), (19, true), (20, true), (21, true), (22, true), (23, true), (24, true), (25, true), (26, true), (27, true), (28, true), (29, true), (30, true), (31, true), (32, true), (33, true), (34, true), (35, true), (36, true)] (by kernel_rfl) mixed (fun w => SL w _) H.drew ?_⟩⟩⟩)
  replace H := H.drew
  refine Ix.at0 i 3 (by kernel_rfl) (rfl) (by omega) ?_
  refine LdC.S 0 rfl (v := .int .i64 ↑z.src) ((take_atE hz (i * 3 + 0) (by omega)).trans ((edg_at hz1 0 (by decide)).trans rfl)) (Ix.at0 i 3 (by kernel_rfl) (rfl) (by omega) ?_)
  refine LdC.S 1 rfl (v := .int .i64 ↑z.src) ((edg_at hz1 0 (by decide)).trans rfl) (BB.no (bne_self_eq_false _) (Ix.at0 i 3 (by kernel_rfl) (rfl) (by omega) ?_))
  refine LdC.S 0 rfl (v := .int .i64 ↑z.dst) ((take_atE hz (i * 3 + 1) (by omega)).trans ((edg_at hz1 1 (by decide)).trans rfl)) (Ix.at0 i 3 (by kernel_rfl) (rfl) (by omega) ?_)
  refine LdC.S 1 rfl (v := .int .i64 ↑z.dst) ((edg_at hz1 1 (by decide)).trans rfl) (BB.no (bne_self_eq_false _) (Ix.at0 i 3 (by kernel_rfl) (rfl) (by omega) ?_))
  refine LdC.S 0 rfl (v := .int .i64 ↑z.rule) ((take_atE hz (i * 3 + 2) (by omega)).trans ((edg_at hz1 2 (by decide)).trans rfl)) (Ix.at0 i 3 (by kernel_rfl) (rfl) (by omega) ?_)
  refine LdC.S 1 rfl (v := .int .i64 ↑z.rule) ((edg_at hz1 2 (by decide)).trans rfl) (BB.no (bne_self_eq_false _) (Cn.no (⟨IW.by (wrap_id (n := ↑i + 1) (by omega) (by omega)) ?_⟩)))
  exact ⟨i + 1, ⟨rfl, trivial⟩, ⟨(by omega : i + 1 ≤ L.length), H⟩, (show L.length - (i + 1) < L.length - i by omega)⟩
 have hob : i = L.length := by omega
 obtain rfl := hob
 refine ⟨BB.no (decide_eq_false (by omega)) ?_⟩
 refine Cn.no (⟨ret1 (.bool true) rfl (by rfl) ?_⟩)
 exact ⟨rfl, H⟩
theorem e_begins_no {w : World} {F : List Piece} {A : Piece} {lb lo lc : Nat} {l : List Ev} (hA : EvA A lb lo l) (hG : SpansA A) (h0 : 0 < l.length) (hll : l.length ≤ 2000) {i : Int} (hr : rightF l = false) (H : SL w (A :: F)) : Calls Tryz.prog 18 #[.slice (some ⟨lb, lo, none⟩) l.length lc, .int .i64 i] w fun o w' => o = .returned (.tuple #[.int .i64 0, .int .i64 4]) ∧ SL w' (A :: F) := by
 refine calls_den (args := [_, _]) Tryz.func18 rfl (Nat.le_of_ble_eq_true (by kernel_rfl)) (by kernel_rfl) ?_
 refine ⟨⟨⟨?_⟩⟩⟩
 have h1 := H
 have K := e_right (lc := lc) hA hG h0 hll h1
 rw [hr] at K
 refine Cl.sl (by kernel_rfl) K fun w H => ?_
 refine BB.no rfl (BB.yes rfl (Cn.yes (⟨ret2 (.int .i64 0) (.int .i64 4) rfl (by rfl) (by rfl) ?_⟩)))
 exact ⟨rfl, H⟩
theorem e_begins_bad {w : World} {F : List Piece} {A : Piece} {lb lo lc : Nat} {l : List Ev} (hA : EvA A lb lo l) (hG : SpansA A) (h0 : 0 < l.length) (hll : l.length ≤ 2000) {i : Int} (hi : i < 0 ∨ (l.length : Int) ≤ i) (hr : rightF l = true) (H : SL w (A :: F)) : Calls Tryz.prog 18 #[.slice (some ⟨lb, lo, none⟩) l.length lc, .int .i64 i] w fun o w' => o = .returned (.tuple #[.int .i64 0, .int .i64 1]) ∧ SL w' (A :: F) := by
 rcases hi with hi | hi
 ·refine calls_den (args := [_, _]) Tryz.func18 rfl (Nat.le_of_ble_eq_true (by kernel_rfl)) (by kernel_rfl) ?_
  refine ⟨⟨⟨?_⟩⟩⟩
  have h1 := H
  have K := e_right (lc := lc) hA hG h0 hll h1
  rw [hr] at K
  refine Cl.sl (by kernel_rfl) K fun w H => ?_
  refine BB.yes rfl (BB.no rfl (Cn.no (⟨BB.yes (decide_eq_true (by omega)) ?_⟩)))
  refine Cn.yes (⟨ret2 (.int .i64 0) (.int .i64 1) rfl (by rfl) (by rfl) ?_⟩)
  exact ⟨rfl, H⟩
 ·by_cases hi0 : i < 0
  ·refine calls_den (args := [_, _]) Tryz.func18 rfl (Nat.le_of_ble_eq_true (by kernel_rfl)) (by kernel_rfl) ?_
   refine ⟨⟨⟨?_⟩⟩⟩
   have h1 := H
   have K := e_right (lc := lc) hA hG h0 hll h1
   rw [hr] at K
   refine Cl.sl (by kernel_rfl) K fun w H => ?_
   refine BB.yes rfl (BB.no rfl (Cn.no (⟨BB.yes (decide_eq_true (by omega)) ?_⟩)))
   refine Cn.yes (⟨ret2 (.int .i64 0) (.int .i64 1) rfl (by rfl) (by rfl) ?_⟩)
   exact ⟨rfl, H⟩
  refine calls_den (args := [_, _]) Tryz.func18 rfl (Nat.le_of_ble_eq_true (by kernel_rfl)) (by kernel_rfl) ?_
  refine ⟨⟨⟨?_⟩⟩⟩
  have h1 := H
  have K := e_right (lc := lc) hA hG h0 hll h1
  rw [hr] at K
  refine Cl.sl (by kernel_rfl) K fun w H => ?_
  refine BB.yes rfl (BB.no rfl (Cn.no (⟨BB.no (decide_eq_false (by omega)) ?_⟩)))
  refine BB.yes (decide_eq_true (by omega)) (Cn.yes (⟨ret2 (.int .i64 0) (.int .i64 1) rfl (by rfl) (by rfl) ?_⟩))
  exact ⟨rfl, H⟩
theorem e_begins_nil {w : World} {F : List Piece} {la : Option Addr} {lc : Nat} {i : Int} (H : SL w F) : Calls Tryz.prog 18 #[.slice la 0 lc, .int .i64 i] w fun o w' => o = .returned (.tuple #[.int .i64 0, .int .i64 1]) ∧ SL w' F := by
 by_cases hi0 : i < 0
 ·refine calls_den (args := [_, _]) Tryz.func18 rfl (Nat.le_of_ble_eq_true (by kernel_rfl)) (by kernel_rfl) ?_
  refine ⟨⟨⟨Cl.sl (by kernel_rfl) (e_right_nil H) fun w H => ?_⟩⟩⟩
  refine BB.yes rfl (BB.no rfl (Cn.no (⟨BB.yes (decide_eq_true (by omega)) ?_⟩)))
  refine Cn.yes (⟨ret2 (.int .i64 0) (.int .i64 1) rfl (by rfl) (by rfl) ?_⟩)
  exact ⟨rfl, H⟩
 refine calls_den (args := [_, _]) Tryz.func18 rfl (Nat.le_of_ble_eq_true (by kernel_rfl)) (by kernel_rfl) ?_
 refine ⟨⟨⟨Cl.sl (by kernel_rfl) (e_right_nil H) fun w H => ?_⟩⟩⟩
 refine BB.yes rfl (BB.no rfl (Cn.no (⟨BB.no (decide_eq_false (by omega)) ?_⟩)))
 refine BB.yes (decide_eq_true (by omega)) (Cn.yes (⟨ret2 (.int .i64 0) (.int .i64 1) rfl (by rfl) (by rfl) ?_⟩))
 exact ⟨rfl, H⟩
/-- A wake has a park ahead of it. -/
theorem beg_there {l : List Ev} (h : RtL l) {i : Nat} (hi : i < l.length) (h7 : (l.getD i evz).kind = 7) : ¬ begK l (l.getD i evz).g i 0 = begK l (l.getD i evz).g i i := by
 obtain ⟨k, hk⟩ := h.parked hi h7
 have hlt := (pkW_some hk).1
 rw [begK_is, begK_is, hk]
 show ¬ i = k
 omega
theorem e_begins {w : World} {F : List Piece} {A : Piece} {lb lo lc : Nat} {l : List Ev} (hA : EvA A lb lo l) (hG : SpansA A) (h0 : 0 < l.length) (hll : l.length ≤ 2000) {i : Nat} (hi : i < l.length) (hr : rightF l = true) (H : SL w (A :: F)) : Calls Tryz.prog 18 #[.slice (some ⟨lb, lo, none⟩) l.length lc, .int .i64 (i : Int)] w fun o w' => o = .returned (.tuple #[.int .i64 (begF l i : Int), .int .i64 0]) ∧ SL w' (A :: F) := by
 have hR := right_iff.1 hr
 obtain ⟨⟨kind, g, chan, case_, value, mate, send, ok⟩, he⟩ : ∃ x, l[i]? = some x := ⟨_, List.getElem?_eq_getElem hi⟩
 have hd : l.getD i evz = ⟨kind, g, chan, case_, value, mate, send, ok⟩ := by rw [List.getD_eq_getElem?_getD, he]; rfl
 by_cases h7 : kind = 7
 ·have hbe := beg_there hR hi (by rw [hd]; exact h7)
  rw [hd] at hbe
  dsimp only at hbe
  refine calls_den (args := [_, _]) Tryz.func18 rfl (Nat.le_of_ble_eq_true (by kernel_rfl)) (by kernel_rfl) ?_
  refine ⟨⟨⟨?_⟩⟩⟩
  have h1 := H
  have K := e_right (lc := lc) hA hG h0 hll h1
  rw [hr] at K
  refine Cl.sl (by kernel_rfl) K fun w H => ?_
  refine BB.yes rfl (BB.no rfl (Cn.no (⟨BB.no (decide_eq_false (by omega)) ?_⟩)))
  refine BB.no (decide_eq_false (by omega)) (Cn.no (⟨Ix.at i 8 (by kernel_rfl) (rfl) (by omega) ?_⟩))
  refine H.ldE 0 rfl hA i 0 he (v := .int .i64 kind) rfl (BB.no (bne_eq_false_iff_eq.2 h7) (Cn.no (⟨⟨den.loop (ι := Int) [(6, 6), (28, 48)] (by kernel_rfl) (fun k => [(6, .int .i64 k)]) (fun k w => ((k = -1 ∨ ∃ j : Nat, k = j ∧ j ≤ i) ∧ begK l g i (k + 1).toNat = begK l g i i) ∧ SL w (A :: F)) (fun k => (k + 1).toNat) ↑i ⟨rfl, trivial⟩ ⟨⟨.inr ⟨i, rfl, Nat.le_refl _⟩, by rw [show ((i : Int) + 1).toNat = i + 1 by omega]; exact begK_no hd (by dsimp only; omega)⟩, (H)⟩ ?_⟩⟩)))
  rintro k s w ⟨hc, H⟩
  obtain ⟨hk, hK⟩ := hc
  rcases hk with rfl | ⟨j, rfl, hj⟩
  ·exact absurd hK (by rw [show ((-1 : Int) + 1).toNat = 0 by omega]; exact hbe)
  have hob := Nat.lt_or_ge j i
  rcases hob with hji | hji
  ·have hob : ∃ x, l[j]? = some x := ⟨_, List.getElem?_eq_getElem (by omega)⟩
   obtain ⟨⟨ykind, yg, ychan, ycase_, yvalue, ymate, ysend, yok⟩, hy⟩ := hob
   have hdy : l.getD j evz = ⟨ykind, yg, ychan, ycase_, yvalue, ymate, ysend, yok⟩ := by rw [List.getD_eq_getElem?_getD, hy]; rfl
   refine ⟨Drw.of [(0, true), (1, true), (2, true), (3, true), (4, true), (5, true), (6, true), (7, true), (8, true), (9, true), (10, true), (11, true), (12, true), (13, true), (14, true), (15, true), (16, true), (17, true), (18, true)] (by kernel_rfl) mixed (fun w => SL w _) H.drew ?_⟩
   replace H := H.drew
   refine Ix.at j 8 (by kernel_rfl) (rfl) (by omega) ?_
   refine LdC.E 0 rfl hA j 0 hy (v := .int .i64 ykind) rfl (BB.vr fun q1 e1 => ?_)
   cases q1
   ·have h1 := bne_eq_false_iff_eq.1 e1
    refine Ix.at j 8 (by kernel_rfl) (rfl) (by omega) ?_
    refine LdC.E 0 rfl hA j 1 hy (v := .int .i64 yg) rfl (Ix.at i 8 (by kernel_rfl) (rfl) (by omega) ?_)
    refine LdC.E 0 rfl hA i 1 he (v := .int .i64 g) rfl (BB.vr fun q2 e2 => ?_)
    cases q2
    ·have h2 := bne_eq_false_iff_eq.1 e2
     refine Cn.no (⟨ret2 (.int .i64 ↑j) (.int .i64 0) rfl (by rfl) (by rfl) ?_⟩)
     have hb : begF l i = begK l g i i := by
      unfold begF
      rw [hd, if_neg (by dsimp only; omega)]
     rw [show ((j : Int) + 1).toNat = j + 1 by omega, begK_yes hdy ⟨by dsimp only; omega, by dsimp only; omega⟩] at hK
     exact ⟨by rw [hb, ← hK], H⟩
    have h2 := bne_iff_ne.1 e2
    refine Cn.yes (⟨⟨IW.by (wrap_id (n := ↑j - 1) (by omega) (by omega)) ?_⟩⟩)
    exact ⟨(↑j - 1), ⟨rfl, trivial⟩, ⟨⟨(down j).imp id (fun ⟨x, h1, h2⟩ => ⟨x, h1, by omega⟩), by rw [show ((j : Int) - 1 + 1).toNat = j by omega, ← hK, show ((j : Int) + 1).toNat = j + 1 by omega]; exact (begK_no hdy (by dsimp only; omega)).symm⟩, H⟩, (show ((j : Int) - 1 + 1).toNat < ((j : Int) + 1).toNat by omega)⟩
   have h1 := bne_iff_ne.1 e1
   refine Cn.yes (⟨⟨IW.by (wrap_id (n := ↑j - 1) (by omega) (by omega)) ?_⟩⟩)
   exact ⟨(↑j - 1), ⟨rfl, trivial⟩, ⟨⟨(down j).imp id (fun ⟨x, h1, h2⟩ => ⟨x, h1, by omega⟩), by rw [show ((j : Int) - 1 + 1).toNat = j by omega, ← hK, show ((j : Int) + 1).toNat = j + 1 by omega]; exact (begK_no hdy (by dsimp only; omega)).symm⟩, H⟩, (show ((j : Int) - 1 + 1).toNat < ((j : Int) + 1).toNat by omega)⟩
  have hob : i = j := by omega
  obtain rfl := hob
  refine ⟨Drw.of [(0, true), (1, true), (2, true), (3, true), (4, true), (5, true), (6, true), (7, true), (8, true), (9, true), (10, true), (11, true), (12, true), (13, true), (14, true), (15, true), (16, true), (17, true), (18, true)] (by kernel_rfl) mixed (fun w => SL w _) H.drew ?_⟩
  replace H := H.drew
  refine Ix.at i 8 (by kernel_rfl) (rfl) (by omega) ?_
  refine LdC.E 0 rfl hA i 0 he (v := .int .i64 kind) rfl (BB.vr fun q3 e3 => ?_)
  cases q3
  ·have h3 := bne_eq_false_iff_eq.1 e3
   refine Ix.at i 8 (by kernel_rfl) (rfl) (by omega) ?_
   refine LdC.E 0 rfl hA i 1 he (v := .int .i64 g) rfl (Ix.at i 8 (by kernel_rfl) (rfl) (by omega) ?_)
   refine LdC.E 0 rfl hA i 1 he (v := .int .i64 g) rfl (BB.no (bne_self_eq_false _) (Cn.no (⟨ret2 (.int .i64 ↑i) (.int .i64 0) rfl (by rfl) (by rfl) ?_⟩)))
   exact absurd h7 (by omega)
  have h3 := bne_iff_ne.1 e3
  refine Cn.yes (⟨⟨IW.by (wrap_id (n := ↑i - 1) (by omega) (by omega)) ?_⟩⟩)
  exact ⟨(↑i - 1), ⟨rfl, trivial⟩, ⟨⟨(down i).imp id (fun ⟨x, h1, h2⟩ => ⟨x, h1, by omega⟩), by rw [show ((i : Int) - 1 + 1).toNat = i by omega]⟩, H⟩, (show ((i : Int) - 1 + 1).toNat < ((i : Int) + 1).toNat by omega)⟩
 refine calls_den (args := [_, _]) Tryz.func18 rfl (Nat.le_of_ble_eq_true (by kernel_rfl)) (by kernel_rfl) ?_
 refine ⟨⟨⟨?_⟩⟩⟩
 have h1 := H
 have K := e_right (lc := lc) hA hG h0 hll h1
 rw [hr] at K
 refine Cl.sl (by kernel_rfl) K fun w H => ?_
 refine BB.yes rfl (BB.no rfl (Cn.no (⟨BB.no (decide_eq_false (by omega)) ?_⟩)))
 refine BB.no (decide_eq_false (by omega)) (Cn.no (⟨Ix.at i 8 (by kernel_rfl) (rfl) (by omega) ?_⟩))
 refine H.ldE 0 rfl hA i 0 he (v := .int .i64 kind) rfl (BB.yes (bne_iff_ne.2 h7) (Cn.yes (⟨ret2 (.int .i64 ↑i) (.int .i64 0) rfl (by rfl) (by rfl) ?_⟩)))
 exact ⟨by rw [show begF l i = i from if_pos (by rw [hd]; dsimp only; omega)], H⟩
end Go.Proofs.YtoamjodmidbmbaaGreatDoor
namespace Go.Proofs.YtoamjodmidbmbaaGreatDoor
open Go.ChangeShapes Go.WideShapes Go.ChangeAt Go.RowKit
abbrev Kx (α : Type) := World → α → List Value → Prop
/-- Whatever of type t can be read is some v of the kind K. -/
structure Opens {α : Type} (t : TypeId) (K : Kx α) : Prop where
 out : ∀ {H : Type} {enc : TypeId × Value → H} {w : World} {base : Nat} {sp : Nat → Bool} {held : Bool} {fuel : Nat} {cs : List Value} {x : DataW H × List MemPlace},
  DataW.trod enc Tryz.prog w base sp held fuel t cs = some x → ∃ v, K w v cs
def kInt : Kx Int := fun _ n cs => cs = [.int .i64 n] ∧ (Lit.int .i64 n).wf = true
def kBool : Kx Bool := fun _ b cs => cs = [.bool b]
def kSeq {α β : Type} (a : Kx α) (b : Kx β) : Kx (α × β) := fun w x cs => ∃ c d, cs = c ++ d ∧ a w x.1 c ∧ b w x.2 d
def kMap {α β : Type} (f : α → β) (a : Kx α) : Kx β := fun w y cs => ∃ x, y = f x ∧ a w x cs
/-- A slice: its elements stand one behind the other, each of sz cells. -/
def kSlice {α : Type} (sz : Nat) (K : Kx α) : Kx (List α) := fun w xs cs =>
 ∃ a cap, cs = [.slice a xs.length cap] ∧ xs.length ≤ cap ∧ cap ≤ maxLen ∧
  (0 < xs.length → ∃ b off, a = some ⟨b, off, none⟩ ∧ ∀ i (h : i < xs.length), ∃ c, c.length = sz ∧ K w xs[i] c ∧ ∀ j u, c[j]? = some u → w.cell? ⟨b, off + i * sz + j, none⟩ = some u)
theorem opens_int {t : TypeId} (ht : Tryz.prog.underlying t = some (.int .i64)) : Opens t kInt := by
 refine ⟨?_⟩
 intro H enc w base sp held fuel cs x h
 obtain ⟨n, hc, _, hw⟩ := DataW.trod_int ht h
 exact ⟨n, hc, hw⟩
theorem opens_bool {t : TypeId} (ht : Tryz.prog.underlying t = some .bool) : Opens t kBool := by
 refine ⟨?_⟩
 intro H enc w base sp held fuel cs x h
 obtain ⟨n, hc, _⟩ := DataW.trod_bool ht h
 exact ⟨n, hc⟩
theorem Opens.map {α β : Type} {t : TypeId} {K : Kx α} (h : Opens t K) (f : α → β) : Opens t (kMap f K) := by
 refine ⟨?_⟩
 intro H enc w base sp held fuel cs x hx
 obtain ⟨v, hv⟩ := h.out hx
 exact ⟨f v, v, rfl, hv⟩
theorem Opens.imp {α β : Type} {t : TypeId} {K : Kx α} {K' : Kx β} (h : Opens t K) (f : α → β) (hf : ∀ w v cs, K w v cs → K' w (f v) cs) : Opens t K' := by
 refine ⟨?_⟩
 intro H enc w base sp held fuel cs x hx
 obtain ⟨v, hv⟩ := h.out hx
 exact ⟨f v, hf _ _ _ hv⟩
theorem opens_slice {α : Type} {t e : TypeId} {sz : Nat} {K : Kx α} (ht : Tryz.prog.underlying t = some (.slice e)) (hC : Tryz.prog.cellsOf e = sz) (hs : 0 < sz) (hK : Opens e K) : Opens t (kSlice sz K) := by
 refine ⟨?_⟩
 intro H enc w base sp held fuel cs x h
 rcases Go.Deep.open_slice ht h with ⟨rfl, _⟩ | ⟨a, len, cap, m, n, D, Pl, rfl, hb, hl, hm, hmm, _, hi⟩
 ·exact ⟨[], none, 0, rfl, Nat.zero_le _, Nat.zero_le _, fun h => absurd h (Nat.lt_irrefl 0)⟩
 ·rw [hC] at hi
  have hlm : len ≤ m := by rw [hmm]; split <;> omega
  have key : ∀ i, i < len → ∃ v c, c.length = sz ∧ K w v c ∧ ∀ j, j < sz → w.cell? ((a.add (i * sz)).add j) = c[j]? := fun i hil => by
   obtain ⟨cs', h1, h2⟩ := hi i (by omega)
   obtain ⟨v, hv⟩ := hK.out h2
   obtain ⟨_, hcl, hat⟩ := World.cells?_some h1
   exact ⟨v, cs', hcl, hv, hat⟩
  have key2 : ∀ n, n ≤ len → ∃ xs : List α, xs.length = n ∧ ∀ i (h : i < xs.length), ∃ c, c.length = sz ∧ K w xs[i] c ∧ ∀ j, j < sz → w.cell? ((a.add (i * sz)).add j) = c[j]? := by
   intro n
   induction n with
   | zero => exact fun _ => ⟨[], rfl, fun i h => absurd h (Nat.not_lt_zero i)⟩
   | succ n ih =>
    intro hn
    obtain ⟨xs, hxl, hxs⟩ := ih (by omega)
    obtain ⟨v, hv⟩ := key n (by omega)
    refine ⟨xs ++ [v], by simp [hxl], fun i h => ?_⟩
    by_cases hi : i < xs.length
    ·rw [List.getElem_append_left hi]
     exact hxs i hi
    ·have hin : i = n := by simp at h; omega
     subst hin
     rw [List.getElem_append_right (by omega)]
     simpa using hv
  obtain ⟨xs, hxl, hxs⟩ := key2 len (Nat.le_refl _)
  subst hxl
  refine ⟨xs, some a, cap, rfl, hl, hm, fun h0 => ?_⟩
  obtain ⟨b, off, spot⟩ := a
  have hspot : spot = none := by
   obtain ⟨c, hcl, _, hat⟩ := hxs 0 h0
   have h1 := hat 0 hs
   have h2 : ((⟨b, off, spot⟩ : Addr).add (0 * sz)).add 0 = ⟨b, off, spot⟩ := by simp [Addr.add]
   rw [h2, List.getElem?_eq_getElem (by omega)] at h1
   unfold World.cell? at h1
   split at h1
   ·cases spot with
    | none => rfl
    | some z => simp at h1
   ·cases h1
  subst hspot
  refine ⟨b, off, rfl, fun i h => ?_⟩
  obtain ⟨c, hcl, hk, hat⟩ := hxs i h
  refine ⟨c, hcl, hk, fun j u hu => ?_⟩
  have hj : j < sz := by
   rcases Nat.lt_or_ge j sz with hj | hj
   ·exact hj
   ·rw [List.getElem?_eq_none (by omega)] at hu
    cases hu
  have h1 := hat j hj
  rw [hu] at h1
  have h2 : ∀ x y : Nat, (⟨b, x, none⟩ : Addr).add y = ⟨b, x + y, none⟩ := fun x y => by
   unfold Addr.add
   split
   ·rename_i hz
    subst hz
    rfl
   ·rfl
  rw [h2, h2] at h1
  exact h1
structure Parts {α : Type} (fs : List Field) (off : Nat) (sz : Nat) (K : Kx α) : Prop where
 out : ∀ {H : Type} {enc : TypeId × Value → H} {w : World} {base : Nat} {sp : Nat → Bool} {held : Bool} {fuel : Nat} {cs : List Value}, cs.length = sz →
  (∀ f ∈ fs, ∃ y, DataW.trod enc Tryz.prog w base sp held fuel f.type ((cs.drop (f.offset - off)).take (Tryz.prog.cellsOf f.type)) = some y) → ∃ v, K w v cs
theorem parts_one {α : Type} {f : Field} {off sz : Nat} {K : Kx α} (ho : f.offset = off) (hc : Tryz.prog.cellsOf f.type = sz) (hK : Opens f.type K) : Parts [f] off sz K := by
 refine ⟨?_⟩
 intro H enc w base sp held fuel cs hl h
 obtain ⟨y, hy⟩ := h f (List.mem_singleton.2 rfl)
 rw [ho, Nat.sub_self, List.drop_zero, hc, ← hl, List.take_length] at hy
 exact hK.out hy
theorem parts_cons {α β : Type} {f : Field} {fs : List Field} {off sz m : Nat} {K : Kx α} {K' : Kx β} (ho : f.offset = off) (hc : Tryz.prog.cellsOf f.type = sz) (hK : Opens f.type K)
  (hoff : ∀ g ∈ fs, off + sz ≤ g.offset) (hP : Parts fs (off + sz) m K') : Parts (f :: fs) off (sz + m) (kSeq K K') := by
 refine ⟨?_⟩
 intro H enc w base sp held fuel cs hl h
 obtain ⟨y, hy⟩ := h f List.mem_cons_self
 rw [ho, Nat.sub_self, List.drop_zero, hc] at hy
 obtain ⟨v, hv⟩ := hK.out hy
 obtain ⟨v', hv'⟩ := hP.out (cs := cs.drop sz) (by rw [List.length_drop]; omega) (fun g hg => by
  obtain ⟨y, hy⟩ := h g (List.mem_cons_of_mem _ hg)
  refine ⟨y, ?_⟩
  rw [List.drop_drop]
  rw [show sz + (g.offset - (off + sz)) = g.offset - off by have := hoff g hg; omega]
  exact hy)
 exact ⟨(v, v'), cs.take sz, cs.drop sz, (List.take_append_drop sz cs).symm, hv, hv'⟩
theorem opens_struct {α : Type} {t : TypeId} {fs : List Field} {sz : Nat} {K : Kx α} (ht : Tryz.prog.underlying t = some (.struct fs.toArray)) (hC : Tryz.prog.cellsOf t = sz) (hP : Parts fs 0 sz K) : Opens t K := by
 refine ⟨?_⟩
 intro H enc w base sp held fuel cs x h
 obtain ⟨xs, n, _, _, hl, hxl, hf⟩ := DataW.trod_struct ht h
 refine hP.out (H := H) (enc := enc) (w := w) (base := base) (sp := sp) (held := held) (fuel := n) (cs := cs) (hl.trans hC) (fun f hm => ?_)
 obtain ⟨i, hi, rfl⟩ := List.getElem_of_mem hm
 have h1 := hf i fs[i] (by simp [hi])
 rw [Nat.sub_zero]
 rw [List.getElem?_eq_getElem (by rw [hxl]; simpa using hi)] at h1
 exact ⟨_, h1⟩
/-- A slice of flat structs, as it is read. -/
theorem rd_of_slice {α : Type} {sz : Nat} {f : α → List Value} {w : World} {xs : List α} {cs : List Value} (hf : ∀ x, (f x).length = sz) (h : kSlice sz (fun _ x c => c = f x) w xs cs) :
  ∃ a cap, cs = [.slice a xs.length cap] ∧ xs.length ≤ cap ∧ Rd w sz a xs.length (xs.flatMap f) := by
 obtain ⟨a, cap, rfl, hc, hm, hx⟩ := h
 refine ⟨a, cap, rfl, hc, flat_length f sz hf xs, Nat.le_trans hc hm, fun h0 => ?_⟩
 obtain ⟨b, off, ha, hi⟩ := hx h0
 refine ⟨b, off, ha, fun i u hu => ?_⟩
 have hlt : i < xs.length * sz := by
  rcases Nat.lt_or_ge i (xs.length * sz) with hj | hj
  ·exact hj
  ·rw [List.getElem?_eq_none (by rw [flat_length f sz hf]; exact hj)] at hu
   cases hu
 have hs : 0 < sz := by
  rcases Nat.eq_zero_or_pos sz with h | h
  ·rw [h, Nat.mul_zero] at hlt
   omega
  ·exact h
 have hg : i / sz < xs.length := (Nat.div_lt_iff_lt_mul hs).2 hlt
 have hj : i % sz < sz := Nat.mod_lt _ hs
 have e : i / sz * sz + i % sz = i := by rw [Nat.mul_comm]; exact Nat.div_add_mod i sz
 obtain ⟨c, _, rfl, hc⟩ := hi (i / sz) hg
 have h1 := flat_get f sz hf xs (i / sz) (i % sz) hj hg
 rw [e, hu] at h1
 have h2 := hc (i % sz) u h1.symm
 rw [Nat.add_assoc, e] at h2
 exact h2
theorem kSlice.imp {α : Type} {sz : Nat} {K K' : Kx α} {w : World} {xs : List α} {cs : List Value} (h : kSlice sz K w xs cs) (hk : ∀ x c, K w x c → K' w x c) : kSlice sz K' w xs cs := by
 obtain ⟨a, cap, h1, h2, h2', h3⟩ := h
 refine ⟨a, cap, h1, h2, h2', fun h0 => ?_⟩
 obtain ⟨b, off, ha, hi⟩ := h3 h0
 refine ⟨b, off, ha, fun i h => ?_⟩
 obtain ⟨c, x, y, z⟩ := hi i h
 exact ⟨c, x, hk _ _ y, z⟩
/-- An argument: what it holds is of the kind K. -/
theorem open_arg {α : Type} {t : TypeId} {K : Kx α} (hK : Opens t K) {H : Type} {enc : TypeId × Value → H} {w : World} {base : Nat} {sp : Nat → Bool} {held : Bool} {v : Value} {d : DataW H} {p : List MemPlace}
  (h : DataW.Trod enc Tryz.prog w base sp held t v d p) : ∃ x, K w x v.cells.toList := by
 obtain ⟨fuel, hf⟩ := h
 exact hK.out hf
def kEv : Kx Ev := fun _ x c => c = x.cells
theorem opens_ev : Opens 53 kEv :=
 (opens_struct (fs := [_, _, _, _, _, _, _, _]) (sz := 8) Tryz.underlying53 (by kernel_rfl)
  (parts_cons (sz := 1) (m := 7) rfl (by kernel_rfl) (opens_int Tryz.underlying3) (by decide)
  (parts_cons (sz := 1) (m := 6) rfl (by kernel_rfl) (opens_int Tryz.underlying3) (by decide)
  (parts_cons (sz := 1) (m := 5) rfl (by kernel_rfl) (opens_int Tryz.underlying3) (by decide)
  (parts_cons (sz := 1) (m := 4) rfl (by kernel_rfl) (opens_int Tryz.underlying3) (by decide)
  (parts_cons (sz := 1) (m := 3) rfl (by kernel_rfl) (opens_int Tryz.underlying3) (by decide)
  (parts_cons (sz := 1) (m := 2) rfl (by kernel_rfl) (opens_int Tryz.underlying3) (by decide)
  (parts_cons (sz := 1) (m := 1) rfl (by kernel_rfl) (opens_bool Tryz.underlying4) (by decide)
  (parts_one (sz := 1) rfl (by kernel_rfl) (opens_bool Tryz.underlying4)))))))))).imp
  (fun v => ⟨v.1, v.2.1, v.2.2.1, v.2.2.2.1, v.2.2.2.2.1, v.2.2.2.2.2.1, v.2.2.2.2.2.2.1, v.2.2.2.2.2.2.2⟩) (fun w v cs h => by
   obtain ⟨v1, v2, v3, v4, v5, v6, v7, v8⟩ := v
   obtain ⟨_, _, rfl, ⟨rfl, _⟩, _, _, rfl, ⟨rfl, _⟩, _, _, rfl, ⟨rfl, _⟩, _, _, rfl, ⟨rfl, _⟩, _, _, rfl, ⟨rfl, _⟩, _, _, rfl, ⟨rfl, _⟩, _, _, rfl, rfl, rfl⟩ := h
   rfl)
/-- A slice of events that came in. -/
structure EvIn (w : World) (v : Value) (l : List Ev) : Prop where
 out : ∃ a cap, v = .slice a l.length cap ∧ l.length ≤ cap ∧ Rd w 8 a l.length (l.flatMap Ev.cells)
set_option maxRecDepth 100000 in
theorem open_sl_api_Event {r : Reach} {b0 : Nat} {H : Type} {enc : TypeId × Value → H} {w : World} {base : Nat} {sp : Nat → Bool} {held : Bool} {v : Value} {d : DataW H} {p : List MemPlace}
  (hv : Value.okWide Tryz.prog w r b0 22 v) (h : DataW.Trod enc Tryz.prog w base sp held 22 v d p) : ∃ l, EvIn w v l := by
 obtain ⟨l, hl⟩ := open_arg (opens_slice (sz := 8) (K := kEv) Tryz.underlying22 (by kernel_rfl) (by decide) opens_ev) h
 obtain ⟨a, cap, he, hc, hr⟩ := rd_of_slice (f := Ev.cells) Ev.cells_len hl
 obtain ⟨a', n', c', rfl⟩ := okWide_slice Tryz.underlying22 hv
 simp only [Value.cells] at he
 exact ⟨l, a, cap, List.head_eq_of_cons_eq he, hc, hr⟩
end Go.Proofs.YtoamjodmidbmbaaGreatDoor
namespace Go.Proofs.YtoamjodmidbmbaaGreatDoor
open Go.ChangeShapes Go.WideShapes Go.ChangeAt Go.RowKit
section
variable {l : List Ev} {L : List Edg} {x y : Edg} {i n : Nat} {p : Edg → Bool}
end
end Go.Proofs.YtoamjodmidbmbaaGreatDoor
