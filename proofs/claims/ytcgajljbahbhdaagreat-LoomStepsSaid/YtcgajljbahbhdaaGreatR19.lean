/- Texts of the proof, several in one file: LawB, LawM. -/
import Derived.Test.YtcgajljbahbhdaaGreatR18
namespace Go.Proofs.YtcgajljbahbhdaaGreat
set_option linter.unusedVariables false
set_option linter.unusedSimpArgs false
open Go.RowKit
set_option maxRecDepth 100000
def hop (k a b : Int) : OpX := ⟨⟨k, a, b, [], false⟩, none, 0⟩
def handX (b7 b9 : Nat) : List ProgX := [⟨[hop 2 0 0, hop 1 1 0, hop 4 0 0], some ⟨b7, 0, none⟩, 3⟩, ⟨[hop 3 0 5], some ⟨b9, 0, none⟩, 1⟩]
def handS : ScrM := ⟨9, 9, [[⟨2, 0, 0, [], false⟩, ⟨1, 1, 0, [], false⟩, ⟨4, 0, 0, [], false⟩], [⟨3, 0, 5, [], false⟩]], [0, 0, 0, 0], []⟩
def handE : List Ev := [⟨2, 0, 0, -1, 0, -1, false, false⟩, ⟨1, 0, -1, -1, 1, 1, false, false⟩, ⟨6, 0, 0, -1, 0, -1, false, false⟩, ⟨3, 1, 0, -1, 5, 0, true, false⟩, ⟨7, 0, 0, -1, 5, 1, false, true⟩]
theorem hands_ver : verL handS (runL handS 5) = 4 := by kernel_rfl
theorem hands_tr : (runL handS 5).tr = handE := by kernel_rfl
section
variable {b7 b9 b10 b11 : Nat}
theorem row_on {S : Nat → Prop} {w : World} {b t : Nat} {cs : Array Value} (h : (row b cs t).on S w) {o : Nat} {v : Value} (hv : cs[o]? = some v) : w.cell? ⟨b, o, none⟩ = some v := row_cell h.2 o hv
theorem rd_none {w : World} {sz : Nat} : Rd w sz none 0 [] := ⟨by simp, Nat.zero_le _, fun h => absurd h (Nat.lt_irrefl 0)⟩
theorem hands_draws : Reader (all [row b10 #[.slice (some ⟨b7, 0, none⟩) 3 3, .slice (some ⟨b9, 0, none⟩) 1 1] 41, row b7 #[.int .i64 2, .int .i64 0, .int .i64 0, .slice none 0 0, .bool false, .int .i64 1, .int .i64 1, .int .i64 0, .slice none 0 0, .bool false, .int .i64 4, .int .i64 0, .int .i64 0, .slice none 0 0, .bool false] 44, row b9 #[.int .i64 3, .int .i64 0, .int .i64 5, .slice none 0 0, .bool false] 44, row b11 #[.int .i64 0, .int .i64 0, .int .i64 0, .int .i64 0] 3]) 1 none ([] : List Int).length (ints []) := fun _ _ _ => rd_none
theorem hands_plan : Reader (all [row b10 #[.slice (some ⟨b7, 0, none⟩) 3 3, .slice (some ⟨b9, 0, none⟩) 1 1] 41, row b7 #[.int .i64 2, .int .i64 0, .int .i64 0, .slice none 0 0, .bool false, .int .i64 1, .int .i64 1, .int .i64 0, .slice none 0 0, .bool false, .int .i64 4, .int .i64 0, .int .i64 0, .slice none 0 0, .bool false] 44, row b9 #[.int .i64 3, .int .i64 0, .int .i64 5, .slice none 0 0, .bool false] 44, row b11 #[.int .i64 0, .int .i64 0, .int .i64 0, .int .i64 0] 3]) 1 (some ⟨b11, 0, none⟩) ([0, 0, 0, 0] : List Int).length (ints [0, 0, 0, 0]) := by
 intro S w h
 obtain ⟨T, _, hT⟩ := SLs.at 3 h rfl
 refine ⟨rfl, by decide, fun _ => ⟨b11, 0, rfl, fun i u hu => row_on hT (by rw [Nat.zero_add]; simpa [ints] using hu)⟩⟩
theorem hands_scr : ScrA (all [row b10 #[.slice (some ⟨b7, 0, none⟩) 3 3, .slice (some ⟨b9, 0, none⟩) 1 1] 41, row b7 #[.int .i64 2, .int .i64 0, .int .i64 0, .slice none 0 0, .bool false, .int .i64 1, .int .i64 1, .int .i64 0, .slice none 0 0, .bool false, .int .i64 4, .int .i64 0, .int .i64 0, .slice none 0 0, .bool false] 44, row b9 #[.int .i64 3, .int .i64 0, .int .i64 5, .slice none 0 0, .bool false] 44, row b11 #[.int .i64 0, .int .i64 0, .int .i64 0, .int .i64 0] 3]) b10 0 (handX b7 b9) where
 prog := by
  intro S w h k p hk
  obtain ⟨T, _, hT⟩ := SLs.at 0 h rfl
  match k, hk with
  | 0, hk => injection hk with hk; subst hk; exact row_on hT rfl
  | 1, hk => injection hk with hk; subst hk; exact row_on hT rfl
 some_ := by
  intro k p hk _
  match k, hk with
  | 0, hk => injection hk with hk; subst hk; exact ⟨_, _, rfl⟩
  | 1, hk => injection hk with hk; subst hk; exact ⟨_, _, rfl⟩
 op := by
  intro S w h k p hk b2 o2 hpa j o hj i v hv
  match k, hk with
  | 0, hk =>
   obtain ⟨T, _, hT⟩ := SLs.at 1 h rfl
   injection hk with hk; subst hk
   injection hpa with hpa
   injection hpa with e1 e2
   subst e1 e2
   match j, hj with
   | 0, hj => injection hj with hj; subst hj; match i, hv with | 0, hv | 1, hv | 2, hv | 3, hv | 4, hv => exact row_on hT hv
   | 1, hj => injection hj with hj; subst hj; match i, hv with | 0, hv | 1, hv | 2, hv | 3, hv | 4, hv => exact row_on hT hv
   | 2, hj => injection hj with hj; subst hj; match i, hv with | 0, hv | 1, hv | 2, hv | 3, hv | 4, hv => exact row_on hT hv
  | 1, hk =>
   obtain ⟨T, _, hT⟩ := SLs.at 2 h rfl
   injection hk with hk; subst hk
   injection hpa with hpa
   injection hpa with e1 e2
   subst e1 e2
   match j, hj with
   | 0, hj => injection hj with hj; subst hj; match i, hv with | 0, hv | 1, hv | 2, hv | 3, hv | 4, hv => exact row_on hT hv
 cap := by
  intro k p hk
  match k, hk with
  | 0, hk => injection hk with hk; subst hk; exact Nat.le_refl 3
  | 1, hk => injection hk with hk; subst hk; exact Nat.le_refl 1
 case := by
  intro k p hk j o hj
  match k, hk with
  | 0, hk =>
   injection hk with hk; subst hk
   match j, hj with
   | 0, hj => injection hj with hj; subst hj; exact ⟨fun _ _ _ => rd_none, Nat.le_refl 0⟩
   | 1, hj => injection hj with hj; subst hj; exact ⟨fun _ _ _ => rd_none, Nat.le_refl 0⟩
   | 2, hj => injection hj with hj; subst hj; exact ⟨fun _ _ _ => rd_none, Nat.le_refl 0⟩
  | 1, hk =>
   injection hk with hk; subst hk
   match j, hj with
   | 0, hj => injection hj with hj; subst hj; exact ⟨fun _ _ _ => rd_none, Nat.le_refl 0⟩
end
theorem l_handrun {b7 b9 b10 b11 : Nat} {w : World} {F : List Piece} (H : SL w (row b10 #[.slice (some ⟨b7, 0, none⟩) 3 3, .slice (some ⟨b9, 0, none⟩) 1 1] 41 :: row b7 #[.int .i64 2, .int .i64 0, .int .i64 0, .slice none 0 0, .bool false, .int .i64 1, .int .i64 1, .int .i64 0, .slice none 0 0, .bool false, .int .i64 4, .int .i64 0, .int .i64 0, .slice none 0 0, .bool false] 44 :: row b9 #[.int .i64 3, .int .i64 0, .int .i64 5, .slice none 0 0, .bool false] 44 :: row b11 #[.int .i64 0, .int .i64 0, .int .i64 0, .int .i64 0] 3 :: F)) : Calls Tryz.prog 12 #[.agg #[.int .i64 9, .int .i64 9, .slice (some ⟨b10, 0, none⟩) 2 2, .slice (some ⟨b11, 0, none⟩) 4 4, .slice none 0 0]] w fun o w' => ∃ tb kc, o = .returned (.tuple #[.slice (some ⟨tb, 0, none⟩) 5 kc, .int .i64 4]) ∧ SL w' (Slc 36 8 (.slice (some ⟨tb, 0, none⟩) 5 kc) 5 (handE.flatMap Ev.cells) :: F) := by
 have h2 : SL w ((all [row b10 #[.slice (some ⟨b7, 0, none⟩) 3 3, .slice (some ⟨b9, 0, none⟩) 1 1] 41, row b7 #[.int .i64 2, .int .i64 0, .int .i64 0, .slice none 0 0, .bool false, .int .i64 1, .int .i64 1, .int .i64 0, .slice none 0 0, .bool false, .int .i64 4, .int .i64 0, .int .i64 0, .slice none 0 0, .bool false] 44, row b9 #[.int .i64 3, .int .i64 0, .int .i64 5, .slice none 0 0, .bool false] 44, row b11 #[.int .i64 0, .int .i64 0, .int .i64 0, .int .i64 0] 3]) :: F) := SL.all.2 H
 have hrun := p_run (t := 9) (m := 9) (X := handX b7 b9) (pl := [0, 0, 0, 0]) (dr := []) (pc := 2) (lc := 4) (dc := 0) (fun _ => ⟨b10, 0, rfl, hands_scr⟩) hands_plan hands_draws (show checkE handS = 0 by decide) h2
 refine Calls.mono hrun ?_
 rintro o w' ⟨ka, kc, rfl, H'⟩
 have ev : verL ⟨9, 9, progsM (handX b7 b9), [0, 0, 0, 0], []⟩ (runL ⟨9, 9, progsM (handX b7 b9), [0, 0, 0, 0], []⟩ (([0, 0, 0, 0] : List Int).length + 1)) = 4 := hands_ver
 have et : (runL ⟨9, 9, progsM (handX b7 b9), [0, 0, 0, 0], []⟩ (([0, 0, 0, 0] : List Int).length + 1)).tr = handE := hands_tr
 rw [et] at H'
 rw [et, ev]
 obtain ⟨tb, rfl⟩ := SL.slcAddr H' (by decide)
 exact ⟨tb, kc, rfl, H'.pick [0] 2 (by decide)⟩
set_option maxHeartbeats 2000000 in
theorem l_hands {w : World} {F : List Piece} (H : SL w F) : Calls Tryz.prog 11 #[] w fun o w' => o = .returned (.bool true) ∧ SL w' F := by
 refine calls_den (args := []) Tryz.func11 rfl (Nat.le_of_ble_eq_true (by kernel_rfl)) (by kernel_rfl) ?_
 refine ⟨?_⟩
 refine ⟨?_⟩
 refine Mn.pure (.agg #[.int .i64 2, .int .i64 0, .int .i64 0, .slice none 0 0, .bool false]) (by kernel_rfl) ?_
 refine Mn.pure (.agg #[.int .i64 1, .int .i64 1, .int .i64 0, .slice none 0 0, .bool false]) (by kernel_rfl) ?_
 refine Mn.pure (.agg #[.int .i64 4, .int .i64 0, .int .i64 0, .slice none 0 0, .bool false]) (by kernel_rfl) ?_
 refine Mn.new (fun b => .slice (some ⟨b, 0, none⟩) 3 3) #[.int .i64 2, .int .i64 0, .int .i64 0, .slice none 0 0, .bool false, .int .i64 1, .int .i64 1, .int .i64 0, .slice none 0 0, .bool false, .int .i64 4, .int .i64 0, .int .i64 0, .slice none 0 0, .bool false] 44 (by kernel_rfl) H fun b7 w H => ?_
 refine Mn.pure (.agg #[.int .i64 3, .int .i64 0, .int .i64 5, .slice none 0 0, .bool false]) (by kernel_rfl) ?_
 refine Mn.new (fun b => .slice (some ⟨b, 0, none⟩) 1 1) #[.int .i64 3, .int .i64 0, .int .i64 5, .slice none 0 0, .bool false] 44 (by kernel_rfl) H fun b9 w H => ?_
 refine Mn.new (fun b => .slice (some ⟨b, 0, none⟩) 2 2) #[.slice (some ⟨b7, 0, none⟩) 3 3, .slice (some ⟨b9, 0, none⟩) 1 1] 41 (by kernel_rfl) H fun b10 w H => ?_
 refine Mn.new (fun b => .slice (some ⟨b, 0, none⟩) 4 4) #[.int .i64 0, .int .i64 0, .int .i64 0, .int .i64 0] 3 (by kernel_rfl) H fun b11 w H => ?_
 refine Mn.pure (.agg #[.int .i64 9, .int .i64 9, .slice (some ⟨b10, 0, none⟩) 2 2, .slice (some ⟨b11, 0, none⟩) 4 4, .slice none 0 0]) (by kernel_rfl) ?_
 have h1 := H.pick [1, 3, 2, 0] 4 (by decide)
 simp only [pk, nth, pkA, pkB, pkC, pkD, pkE, pkF] at h1
 refine Cl.by (by kernel_rfl) (l_handrun h1) ?_
 rintro _ w ⟨tb, kc, rfl, H⟩
 refine ⟨_, rfl, ?_⟩
 refine ⟨?_⟩
 refine BB.yes rfl ?_
 refine BB.yes rfl ?_
 refine Ix.at0 2 8 (by kernel_rfl) rfl (by decide) ?_
 refine H.ldS 0 rfl (v := .int .i64 6) (rfl) ?_
 refine BB.yes rfl ?_
 refine Ix.at0 3 8 (by kernel_rfl) rfl (by decide) ?_
 refine H.ldS 0 rfl (v := .int .i64 3) (rfl) ?_
 refine BB.yes rfl ?_
 refine Ix.at0 3 8 (by kernel_rfl) rfl (by decide) ?_
 refine H.ldS 0 rfl (v := .int .i64 0) (rfl) ?_
 refine BB.yes rfl ?_
 refine Ix.at0 4 8 (by kernel_rfl) rfl (by decide) ?_
 refine H.ldS 0 rfl (v := .int .i64 7) (rfl) ?_
 refine BB.yes rfl ?_
 refine Ix.at0 4 8 (by kernel_rfl) rfl (by decide) ?_
 refine H.ldS 0 rfl (v := .int .i64 5) (rfl) ?_
 refine BB.yes rfl ?_
 refine ret1 (fn := Tryz.f11) (.bool true) rfl (by rfl) ?_
 exact ⟨rfl, H.tl⟩
end Go.Proofs.YtcgajljbahbhdaaGreat
namespace Go.Proofs.YtcgajljbahbhdaaGreat
set_option linter.unusedVariables false
set_option linter.unusedSimpArgs false
open Go.RowKit
instance : DecidableEq CaseM := fun a b =>
 if h : a.send = b.send ∧ a.chan = b.chan ∧ a.value = b.value then .isTrue (by obtain ⟨h1, h2, h3⟩ := h; cases a; cases b; simp_all) else .isFalse (fun e => h (by rw [e]; exact ⟨rfl, rfl, rfl⟩))
set_option maxRecDepth 100000 in
theorem run_eq_case (e f : CaseM) (w : World) : (binOp .eql 98 e.agg f.agg).run Tryz.prog w = .ok (.bool (decide (e = f))) w := by
 obtain ⟨e1, e2, e3⟩ := e
 obtain ⟨f1, f2, f3⟩ := f
 have hf : Tryz.prog.underlying 98 = some (.struct (Tryz.prog.fieldsOf 98)) := by kernel_rfl
 simp only [CaseM.agg]
 rw [run_eql_struct, run_equalIn_agg w 9999 _ _ _ hf (by kernel_rfl)]
 obtain ⟨g1, g2, g3, hl, k⟩ : ∃ g1 g2 g3, (Tryz.prog.fieldsOf 98).toList = [g1, g2, g3] ∧ (Tryz.prog.fieldsOf 98).toList.map (fun f => (f.name != "_", f.type, f.offset)) = [(true, 4, 0), (true, 3, 1), (true, 3, 2)] :=
  ⟨_, _, _, rfl, by kernel_rfl⟩
 rw [hl] at k ⊢
 simp only [List.map_cons, List.map_nil, List.cons.injEq, Prod.mk.injEq, bne_iff_ne, ne_eq, and_true] at k
 obtain ⟨⟨n1, t1, o1⟩, ⟨n2, t2, o2⟩, ⟨n3, t3, o3⟩⟩ := k
 have hi : Tryz.prog.underlying 3 = some (.int .i64) := by kernel_rfl
 have hb : Tryz.prog.underlying 4 = some .bool := by kernel_rfl
 rw [eqf_bool (a := e1) (b := f1) n1 (by rw [t1, o1]; kernel_rfl) (by rw [t1, o1]; kernel_rfl) (by rw [t1]; exact hb)]
 rw [eqf_int (a := e2) (b := f2) n2 (by rw [t2, o2]; kernel_rfl) (by rw [t2, o2]; kernel_rfl) (by rw [t2]; exact hi)]
 rw [eqf_int (a := e3) (b := f3) n3 (by rw [t3, o3]; kernel_rfl) (by rw [t3, o3]; kernel_rfl) (by rw [t3]; exact hi)]
 have he : (Op.eqFields 9999 #[Value.bool e1, .int .i64 e2, .int .i64 e3] #[Value.bool f1, .int .i64 f2, .int .i64 f3] []).run Tryz.prog w = .ok true w := rfl
 simp only [CaseM.mk.injEq]
 by_cases h1 : e1 = f1 <;> by_cases h2 : e2 = f2 <;> by_cases h3 : e3 = f3 <;> first | rfl | simp [h1, h2, h3, he, Op.eqFields]
theorem MnC.sameCase {σ : Fr} {op : Oper} {S : World → Prop} {K : Value → Prop} (e : CaseM) (x y : Operand) (ty : Nat) (hop : op.op = .binOp .neq 98 x y ty) (hx : ev σ x = e.agg) (hy : ev σ y = e.agg) (k : K (.bool false)) : MnC Tryz.prog S σ op K := by
 refine MnC.pure _ (fun w => ?_) k
 have hg := run_eqGuard_agg (P := Tryz.prog) w .neq 98 x y e.cells.toArray e.cells.toArray (by kernel_rfl)
 have h1 : e.agg = .agg e.cells.toArray := rfl
 have h := run_eq_case e e w
 rw [h1, run_eql_struct] at h
 have h3 : (binOp .neq 98 (.agg e.cells.toArray) (.agg e.cells.toArray)).run Tryz.prog w = .ok (.bool false) w := by
  rw [run_neq_struct]
  cases hr : (Op.equalIn 10000 98 (.agg e.cells.toArray) (.agg e.cells.toArray)).run Tryz.prog w with
  | ok b w' =>
   rw [hr] at h
   simp only [Result.andThen_ok, Result.ok.injEq, Value.bool.injEq] at h
   obtain ⟨rfl, rfl⟩ := h
   simp
  | halt c w' =>
   rw [hr] at h
   cases h
 simp only [execOp, hop, hx, hy, h1, Sem.run_bind, hg, h3, Result.andThen_ok, Sem.run_pure]
end Go.Proofs.YtcgajljbahbhdaaGreat
