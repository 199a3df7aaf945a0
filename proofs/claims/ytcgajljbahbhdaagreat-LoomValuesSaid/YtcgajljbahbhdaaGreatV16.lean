/- Texts of the proof, several in one file: LoomX8, LoomX9. -/
import Derived.Test.YtcgajljbahbhdaaGreatV13
import Derived.Test.YtcgajljbahbhdaaGreatV14
namespace Go.Proofs.YtcgajljbahbhdaaGreat
set_option linter.unusedVariables false
set_option linter.unusedSimpArgs false
open Go.RowKit
theorem run_p {s : ScrM} : ∀ {i : Nat}, verL s (runL s i) = 0 → (runL s i).p = i
 | 0, _ => rfl
 | i + 1, h => by
  by_cases hv : verL s (runL s i) = 0
  ·show (stepL s (runL s i)).p = i + 1
   rw [step_p hv, run_p hv]
  ·exfalso
   have e : runL s (i + 1) = runL s i := step_stop hv
   rw [e] at h
   exact hv h
theorem run_over (s : ScrM) : verL s (runL s (s.plan.length + 1)) ≠ 0 := by
 intro h
 have h1 := run_p h
 obtain ⟨_, _, h2⟩ := ver_zero h
 omega
section
variable {A : Piece} {sz n m : Nat} {a : Option Addr} {xs : List Value}
theorem Reader.take (h : Reader A sz a n xs) (hm : m ≤ n) : Reader A sz a m (xs.take (m * sz)) := by
 intro S w hS
 obtain ⟨h1, h2, h3⟩ := h S w hS
 refine ⟨?_, by omega, fun h0 => ?_⟩
 ·rw [List.length_take, h1]
  exact Nat.min_eq_left (Nat.mul_le_mul_right sz hm)
 ·obtain ⟨b, off, ha, hc⟩ := h3 (by omega)
  refine ⟨b, off, ha, fun i u hu => hc i u ?_⟩
  rw [List.getElem?_take] at hu
  split at hu
  ·exact hu
  ·cases hu
theorem ints_take (l : List Int) (k : Nat) : (ints l).take (k * 1) = ints (l.take k) := by simp [ints, List.map_take]
end
end Go.Proofs.YtcgajljbahbhdaaGreat
namespace Go.Proofs.YtcgajljbahbhdaaGreat
set_option linter.unusedVariables false
set_option linter.unusedSimpArgs false
open Go.RowKit
def inE (c : Int) (e : Ev) : Bool := e.chan == c && (e.kind == 3 || (e.kind == 7 && e.send))
def outE (c : Int) (e : Ev) : Bool := e.chan == c && ((e.kind == 4 && e.ok) || (e.kind == 7 && !e.send && e.ok))
def insV (c : Int) (tr : List Ev) : List Int := (tr.filter (inE c)).map (·.value)
def outsV (c : Int) (tr : List Ev) : List Int := (tr.filter (outE c)).map (·.value)
def bufC (M : List PipeM) (c : Nat) : List Int := (M.getD c (emptyM 0)).buf
def Val (x : LmM) : Prop := ∀ c : Nat, insV c x.tr = outsV c x.tr ++ bufC x.M c
theorem insV_snoc (c : Int) (tr : List Ev) (e : Ev) : insV c (tr ++ [e]) = insV c tr ++ (if inE c e = true then [e.value] else []) := by
 unfold insV
 rw [List.filter_append, List.map_append]
 cases h : inE c e <;> simp [h]
theorem outsV_snoc (c : Int) (tr : List Ev) (e : Ev) : outsV c (tr ++ [e]) = outsV c tr ++ (if outE c e = true then [e.value] else []) := by
 unfold outsV
 rw [List.filter_append, List.map_append]
 cases h : outE c e <;> simp [h]
def Calm (e : Ev) : Prop := ∀ c : Nat, inE c e = false ∧ outE c e = false
theorem calm_kind {e : Ev} (h3 : e.kind ≠ 3) (h4 : e.kind ≠ 4) (h7 : e.kind ≠ 7) : Calm e := fun c => by
 unfold inE outE
 simp [h3, h4, h7]
theorem calm_wake {e : Ev} (h3 : e.kind = 7) (hs : e.send = false) (ho : e.ok = false) : Calm e := fun c => by
 unfold inE outE
 simp [h3, hs, ho]
section
variable {x : LmM} {M' : List PipeM}
theorem Val.calm (h : Val x) {e : Ev} (he : Calm e) (hb : ∀ c, bufC M' c = bufC x.M c) : Val { noteL x e with M := M' } := fun c => by
 show insV c (x.tr ++ [e]) = outsV c (x.tr ++ [e]) ++ bufC M' c
 rw [insV_snoc, outsV_snoc, if_neg (by rw [(he c).1]; exact Bool.false_ne_true), if_neg (by rw [(he c).2]; exact Bool.false_ne_true), List.append_nil, List.append_nil, hb]
 exact h c
theorem Val.setM (h : Val x) (hb : ∀ c, bufC M' c = bufC x.M c) : Val { x with M := M' } := fun c => by
 show insV c x.tr = outsV c x.tr ++ bufC M' c
 rw [hb]
 exact h c
theorem Val.note (h : Val x) {e : Ev} (he : Calm e) : Val (noteL x e) := h.calm (M' := x.M) he (fun _ => rfl)
end
theorem buf_map (M : List PipeM) (f : PipeM → PipeM) (hf : ∀ y, (f y).buf = y.buf) (c : Nat) : bufC (M.map f) c = bufC M c := by
 unfold bufC
 rw [List.getD_eq_getElem?_getD, List.getD_eq_getElem?_getD, List.getElem?_map]
 cases M[c]? with
 | none => rfl
 | some y => exact hf y
theorem buf_set (M : List PipeM) (i : Nat) (y : PipeM) (hy : y.buf = bufC M i) (c : Nat) : bufC (M.set i y) c = bufC M c := by
 unfold bufC at hy ⊢
 rw [List.getD_eq_getElem?_getD, List.getD_eq_getElem?_getD, List.getElem?_set]
 by_cases h : i = c
 ·subst h
  rw [if_pos rfl]
  split
  ·rw [List.getD_eq_getElem?_getD] at hy
   exact hy
  ·rename_i hh
   rw [List.getElem?_eq_none (by omega)]
 ·rw [if_neg h]
theorem drop_buf (y : PipeM) (g : Int) : (dropM y g).buf = y.buf := rfl
theorem wait_buf (y : PipeM) (s : Bool) (m : Wtr) : (waitF y s m).2.buf = y.buf := by
 unfold waitF
 split
 ·rfl
 ·split <;> rfl
theorem close_buf (y : PipeM) : (closeF y).2.buf = y.buf := by
 unfold closeF
 split <;> rfl
theorem Val.wake {x : LmM} (h : Val x) {e : Ev} (he : Calm e) : Val (wakeL x e) := h.calm he (fun c => buf_map _ _ (fun y => drop_buf y _) c)
theorem Val.wakes {x : LmM} (h : Val x) (g ch : Int) : ∀ ws : List Wtr, Val (wakesL x g ch ws) := by
 intro ws
 induction ws generalizing x with
 | nil => exact h
 | cons w ws ih =>
  unfold wakesL
  split
  ·exact ih (h.wake (calm_wake rfl rfl rfl))
  ·exact ih h
theorem Val.panic {x : LmM} (h : Val x) (g : Int) : Val (panicL x g) := h.note (e := bareE 12 g) (calm_kind (show (12 : Int) ≠ 3 by decide) (show (12 : Int) ≠ 4 by decide) (show (12 : Int) ≠ 7 by decide))
theorem Val.senders {x : LmM} (h : Val x) : ∀ ws : List Wtr, Val (sendersL x ws) := by
 intro ws
 induction ws with
 | nil => exact h
 | cons w ws ih =>
  unfold sendersL
  split
  ·exact h.panic _
  ·exact ih
theorem backN_off : ∀ (ns : List Int) (ys M : List PipeM) (c : Nat), (∀ n ∈ ns, n ≠ (c : Int)) → (backN ns ys M)[c]? = M[c]?
 | [], _, _, _, _ => by unfold backN; rfl
 | n :: ns, [], _, _, _ => by unfold backN; rfl
 | n :: ns, y :: ys, M, c, h => by
  unfold backN
  rw [backN_off ns ys _ c (fun m hm => h m (List.mem_cons_of_mem _ hm))]
  split
  ·rename_i h0
   have := h n List.mem_cons_self
   rw [List.getElem?_set, if_neg (by omega)]
  ·rfl
theorem backN_on : ∀ (ns : List Int) (ys M : List PipeM) (k c : Nat) (y : PipeM), ns.Pairwise (fun a b => 0 ≤ a → a ≠ b) → ns[k]? = some (c : Int) → ys[k]? = some y → c < M.length → (backN ns ys M)[c]? = some y
 | [], _, _, _, _, _, _, h, _, _ => by simp at h
 | n :: ns, [], _, _, _, _, _, _, h, _ => by simp at h
 | n :: ns, z :: ys, M, 0, c, y, hp, hn, hy, hc => by
  simp at hn hy
  subst hn hy
  unfold backN
  rw [backN_off ns ys _ c (fun m hm => Ne.symm ((List.pairwise_cons.1 hp).1 m hm (Int.natCast_nonneg _))), if_pos (Int.natCast_nonneg _), Int.toNat_natCast, List.getElem?_set, if_pos rfl, if_pos hc]
 | n :: ns, z :: ys, M, k + 1, c, y, hp, hn, hy, hc => by
  simp at hn hy
  unfold backN
  exact backN_on ns ys _ k c y (List.pairwise_cons.1 hp).2 hn hy (by split <;> simp [hc])
/-- What the buffers are behind it. -/
theorem backN_buf {np k : Nat} {x : LmM} (hk : Lk np k x) (ys : List PipeM) (c : Nat) (Q : List Int) (hon : ∀ j : Nat, j < 8 → numL x (j : Int) = (c : Int) → ∃ y, ys[j]? = some y ∧ y.buf = Q) (hoff : (∀ j : Nat, j < 8 → numL x (j : Int) ≠ (c : Int)) → bufC x.M c = Q) : bufC (backN x.name ys x.M) c = Q := by
 by_cases h : ∃ j : Nat, j < 8 ∧ numL x (j : Int) = (c : Int)
 ·obtain ⟨j, hj, hjc⟩ := h
  obtain ⟨y, hy, hq⟩ := hon j hj hjc
  have hj' : j < x.name.length := by rw [hk.n8]; exact hj
  have hlt : c < x.M.length := by have := num_lt hk hj; rw [hjc] at this; omega
  have hn : x.name[j]? = some (c : Int) := by rw [List.getElem?_eq_getElem hj', ← numL_get hj', hjc]
  unfold bufC
  rw [List.getD_eq_getElem?_getD, backN_on x.name ys x.M j c y hk.nm.ne hn hy hlt]
  exact hq
 ·have h' : ∀ j : Nat, j < 8 → numL x (j : Int) ≠ (c : Int) := fun j hj e => h ⟨j, hj, e⟩
  unfold bufC
  rw [List.getD_eq_getElem?_getD, backN_off x.name ys x.M c (fun n hn => ?_), ← List.getD_eq_getElem?_getD]
  ·exact hoff h'
  ·obtain ⟨j, hj, rfl⟩ := List.getElem_of_mem hn
   have := h' j (by rw [← hk.n8]; exact hj)
   rw [numL_get hj] at this
   exact this
theorem pipesN_get {np k : Nat} {x : LmM} (hk : Lk np k x) {j : Nat} (hj : j < 8) : (pipesN x)[j]? = some (if 0 ≤ numL x (j : Int) then x.M.getD (numL x (j : Int)).toNat (emptyM 0) else emptyM 0) := by
 have := msN_at hk hj
 rw [← pipesN_eq] at this
 exact this
theorem num_one {np k : Nat} {x : LmM} (hk : Lk np k x) {i j : Nat} (hi : i < 8) (hj : j < 8) (h0 : 0 ≤ numL x (i : Int)) (he : numL x (i : Int) = numL x (j : Int)) : i = j := by
 have hi' : i < x.name.length := by rw [hk.n8]; exact hi
 have hj' : j < x.name.length := by rw [hk.n8]; exact hj
 rw [numL_get hi'] at h0
 rw [numL_get hi', numL_get hj'] at he
 rcases Nat.lt_trichotomy i j with h | h | h
 ·exact absurd he (List.pairwise_iff_getElem.1 hk.nm.ne i j hi' hj' h h0)
 ·exact h
 ·exact absurd he.symm (List.pairwise_iff_getElem.1 hk.nm.ne j i hj' hi' h (by rw [← he]; exact h0))
theorem park_bufs (ok : List Bool) (g : Int) (L : List CaseM) (M : List PipeM) (c : Nat) : ∀ k, bufC (parkK ok g L M k).2 c = bufC M c
 | 0 => rfl
 | k + 1 => by
  unfold parkK
  split
  ·exact park_bufs ok g L M c k
  ·dsimp only
   rw [buf_set _ _ _ (wait_buf _ _ _), park_bufs ok g L M c k]
theorem parkF_bufs (ok : List Bool) (g : Int) (L : List CaseM) (M : List PipeM) (c : Nat) : bufC (parkF ok g L M).2 c = bufC M c := by
 unfold parkF
 split
 ·rfl
 ·split
  ·rfl
  ·exact park_bufs ok g L M c _
theorem bufC_at {M : List PipeM} {c : Nat} {y : PipeM} (h : M[c]? = some y) : y.buf = bufC M c := by
 unfold bufC
 rw [List.getD_eq_getElem?_getD, h]
 rfl
theorem pipesN_buf {np k : Nat} {x : LmM} (hk : Lk np k x) {j c : Nat} (hj : j < 8) (hc : numL x (j : Int) = (c : Int)) : bufC (pipesN x) j = bufC x.M c := by
 have := pipesN_get hk hj
 rw [hc, if_pos (Int.natCast_nonneg c), Int.toNat_natCast] at this
 rw [← bufC_at this]
 rfl
theorem Val.park {np k : Nat} {x : LmM} (hk : Lk np k x) (h : Val x) (g : Int) (L : List CaseM) : Val { x with M := backN x.name (parkF (okN x) g L (pipesN x)).2 x.M } := by
 refine h.setM (fun c => ?_)
 refine backN_buf hk _ c _ (fun j hj hjc => ?_) (fun _ => rfl)
 have hl : j < (parkF (okN x) g L (pipesN x)).2.length := by rw [parkF_len, hk.pipes_len]; exact hj
 refine ⟨(parkF (okN x) g L (pipesN x)).2[j], List.getElem?_eq_getElem hl, ?_⟩
 rw [bufC_at (List.getElem?_eq_getElem hl), parkF_bufs, pipesN_buf hk hj hjc]
theorem Val.talk {np k : Nat} {x : LmM} (hk : Lk np k x) (h : Val x) {g : Int} {c : CaseM} {a : Int} (hc : 0 ≤ c.chan ∧ c.chan < 8) (hr : readyC (okN x) (pipesN x) c = true) : Val (talkL x g c a) := by
 obtain ⟨s, ch, v⟩ := c
 dsimp only at hc
 obtain ⟨j, rfl⟩ := Int.eq_ofNat_of_zero_le hc.1
 have hj : j < 8 := by omega
 rw [readyC_num hk hj] at hr
 by_cases h0 : 0 ≤ numL x (j : Int)
 ·rw [if_pos h0] at hr
  obtain ⟨i, hi⟩ := Int.eq_ofNat_of_zero_le h0
  have hpos : posF (okN x) (j : Int) = some j := by rw [posF_num hk hj, if_pos h0]
  have hgd : (pipesN x).getD j (emptyM 0) = x.M.getD i (emptyM 0) := by rw [pipesN_at hk hj, if_pos h0, hi, Int.toNat_natCast]
  rw [hi, Int.toNat_natCast] at hr
  obtain ⟨p, hp⟩ : ∃ p, x.M.getD i (emptyM 0) = p := ⟨_, rfl⟩
  have hil : i < x.M.length := by have := num_lt hk hj; omega
  have hI : Inv9 k p := by rw [← hp]; exact hk.inv.get hil
  have hbi : bufC x.M i = p.buf := by unfold bufC; rw [hp]
  rw [hp] at hgd hr
  have hlen : j < (pipesN x).length := by rw [hk.pipes_len]; exact hj
  have key : ∀ (y : PipeM) (c' : Nat), bufC (backN x.name ((pipesN x).set j y) x.M) c' = if c' = i then y.buf else bufC x.M c' := by
   intro y c'
   refine backN_buf hk _ c' _ (fun j' hj' hjc => ?_) (fun hno => ?_)
   ·by_cases e : j' = j
    ·subst e
     refine ⟨y, by rw [List.getElem?_set, if_pos rfl, if_pos hlen], ?_⟩
     rw [if_pos (by omega)]
    ·refine ⟨_, by rw [List.getElem?_set, if_neg (Ne.symm e)]; exact pipesN_get hk hj', ?_⟩
     have hne : c' ≠ i := fun e' => e (num_one hk hj' hj (by omega) (by omega))
     rw [if_neg hne, hjc, if_pos (Int.natCast_nonneg _), Int.toNat_natCast]
     rfl
   ·rw [if_neg (fun e => hno j hj (by omega))]
  -- what each channel has, by one or two events
  have one : ∀ (y : PipeM) (e : Ev) (z : LmM), z.tr = x.tr ++ [e] → z.M = backN x.name ((pipesN x).set j y) x.M → (e.chan = (i : Int)) → (insV i x.tr ++ (if inE i e = true then [e.value] else []) = (outsV i x.tr ++ (if outE i e = true then [e.value] else [])) ++ y.buf) → Val z := by
   intro y e z ht hM hch hv c'
   rw [ht, hM, insV_snoc, outsV_snoc, key]
   by_cases e' : c' = i
   ·subst e'
    rw [if_pos rfl]
    exact hv
   ·have hn : (e.chan == (c' : Int)) = false := by rw [hch]; exact beq_eq_false_iff_ne.2 (by omega)
    rw [if_neg e', if_neg (by unfold inE; rw [hn]; simp), if_neg (by unfold outE; rw [hn]; simp), List.append_nil, List.append_nil]
    exact h c'
  have two : ∀ (y : PipeM) (e f : Ev) (z : LmM), z.tr = x.tr ++ [e] ++ [f] → (∀ c', bufC z.M c' = bufC (backN x.name ((pipesN x).set j y) x.M) c') → e.chan = (i : Int) → f.chan = (i : Int) → (insV i x.tr ++ (if inE i e = true then [e.value] else []) ++ (if inE i f = true then [f.value] else []) = (outsV i x.tr ++ (if outE i e = true then [e.value] else []) ++ (if outE i f = true then [f.value] else [])) ++ y.buf) → Val z := by
   intro y e f z ht hM hce hcf hv c'
   rw [ht, hM, insV_snoc, insV_snoc, outsV_snoc, outsV_snoc, key]
   by_cases e' : c' = i
   ·subst e'
    rw [if_pos rfl]
    exact hv
   ·have hn : (e.chan == (c' : Int)) = false := by rw [hce]; exact beq_eq_false_iff_ne.2 (by omega)
    have hm : (f.chan == (c' : Int)) = false := by rw [hcf]; exact beq_eq_false_iff_ne.2 (by omega)
    rw [if_neg e', if_neg (by unfold inE; rw [hn]; simp), if_neg (by unfold inE; rw [hm]; simp), if_neg (by unfold outE; rw [hn]; simp), if_neg (by unfold outE; rw [hm]; simp)]
    simp only [List.append_nil]
    exact h c'
  have hx := h i
  rw [hbi] at hx
  have hdrop : ∀ (M : List PipeM) (g' : Int) (c' : Nat), bufC (M.map (fun y => dropM y g')) c' = bufC M c' := fun M g' c' => buf_map _ _ (fun y => drop_buf y _) c'
  cases s with
  | true =>
   have hT : tryF (okN x) (pipesN x) ⟨true, (j : Int), v⟩ = ((sendF p v).1, (pipesN x).set j (sendF p v).2) := by
    unfold tryF
    dsimp only
    rw [hpos]
    dsimp only
    rw [if_pos rfl, hgd]
   unfold talkL
   rw [hT]
   unfold readyF at hr
   unfold sendF
   by_cases hcl : p.closed = true
   ·rw [if_pos hcl]
    dsimp only
    rw [if_pos (by decide)]
    refine Val.panic (h.setM (fun c' => ?_)) g
    rw [key]
    split
    ·rename_i e; subst e; exact hbi.symm
    ·rfl
   ·rw [if_neg hcl]
    cases hrc : p.receivers with
    | cons m l =>
     dsimp only
     rw [if_neg (by decide), if_pos rfl]
     have hb : p.buf = [] := hI.re (by rw [hrc]; exact List.cons_ne_nil _ _)
     refine two _ _ _ _ rfl (fun c' => hdrop _ _ c') hi hi ?_
     rw [hx, hb]
     simp [inE, outE, hi]
    | nil =>
     dsimp only
     by_cases hlt : p.buf.length < p.size
     ·rw [if_pos hlt]
      dsimp only
      rw [if_neg (by decide), if_neg (by decide)]
      refine one _ _ _ rfl rfl hi ?_
      rw [hx]
      simp [inE, outE, hi]
     ·exfalso
      simp [hcl, hrc, hlt] at hr
  | false =>
   have hT : tryF (okN x) (pipesN x) ⟨false, (j : Int), v⟩ = (((recvF p).1, 0), (pipesN x).set j (recvF p).2) := by
    unfold tryF
    dsimp only
    rw [hpos]
    dsimp only
    rw [if_neg (by decide), hgd]
   unfold talkL
   rw [hT]
   unfold readyF at hr
   unfold recvF
   cases hb : p.buf with
   | cons b L =>
    cases hs : p.senders with
    | cons m l =>
     dsimp only
     rw [if_neg (by decide), if_pos rfl]
     refine two _ _ _ _ rfl (fun c' => hdrop _ _ c') hi hi ?_
     rw [hx, hb]
     simp [inE, outE, hi]
    | nil =>
     dsimp only
     rw [if_neg (by decide), if_neg (by decide)]
     refine one _ _ _ rfl rfl hi ?_
     rw [hx, hb]
     simp [inE, outE, hi]
   | nil =>
    cases hs : p.senders with
    | cons m l =>
     dsimp only
     rw [if_neg (by decide), if_pos rfl]
     refine two _ _ _ _ rfl (fun c' => hdrop _ _ c') hi hi ?_
     rw [hx, hb]
     simp [inE, outE, hi]
    | nil =>
     dsimp only
     cases hcl : p.closed with
     | true =>
      refine one _ _ _ rfl rfl hi ?_
      rw [hx, hb]
      simp [inE, outE, gzero, hb]
     | false =>
      exfalso
      simp [hcl, hs, hb] at hr
 ·rw [if_neg h0] at hr
  cases hr
theorem Val.turn {x : LmM} (h : Val x) (g fr to : Int) : Val (turnL x g fr to) := h
theorem Val.alone {np k : Nat} {x : LmM} (hk : Lk np k x) (h : Val x) {g : Int} {c : CaseM} (hc : 0 ≤ c.chan ∧ c.chan < 8) : Val (aloneL x g c) := by
 unfold aloneL
 split
 ·rename_i hr
  exact h.talk hk hc hr
 ·dsimp only
  refine Val.turn ?_ g 0 1
  split
  ·exact (h.note (calm_kind (show (6 : Int) ≠ 3 by decide) (show (6 : Int) ≠ 4 by decide) (show (6 : Int) ≠ 7 by decide))).setM (fun c' => buf_set _ _ _ (wait_buf _ _ _) c')
  ·exact h.note (calm_kind (show (6 : Int) ≠ 3 by decide) (show (6 : Int) ≠ 4 by decide) (show (6 : Int) ≠ 7 by decide))
theorem Val.shut {x : LmM} (h : Val x) (g c : Int) : Val (shutL x g c) := by
 unfold shutL
 dsimp only
 split
 ·exact h.panic g
 ·split
  ·exact h.panic g
  ·refine Val.senders (Val.wakes (Val.turn (Val.note ?_ ?_) g 0 0) g _ _) _
   ·exact h.setM (fun c' => buf_set _ _ _ (close_buf _) c')
   ·exact calm_kind (show (5 : Int) ≠ 3 by decide) (show (5 : Int) ≠ 4 by decide) (show (5 : Int) ≠ 7 by decide)
theorem ready_mem {ok : List Bool} {M : List PipeM} {L : List CaseM} {a : Int} (h : a ∈ readyL ok M L) : ∃ i : Nat, a = (i : Int) ∧ i < L.length ∧ readyC ok M (L.getD i ⟨false, 0, 0⟩) = true := by
 unfold readyL readyK at h
 obtain ⟨i, hi, rfl⟩ := List.mem_map.1 h
 obtain ⟨h1, h2⟩ := List.mem_filter.1 hi
 exact ⟨i, rfl, List.mem_range.1 h1, h2⟩
theorem draw_lt (s : ScrM) (x : LmM) {n : Nat} (h : 0 < n) : (drawL s x n).1 < n := by
 unfold drawL
 split
 ·exact h
 ·exact Nat.mod_lt _ h
theorem Val.choose {np k : Nat} {x : LmM} (hk : Lk np k x) (h : Val x) {g : Int} {o : OpM} (ho : OpOk np o) (s : ScrM) : Val (chooseL s x g o) := by
 unfold chooseL
 dsimp only
 split
 ·rename_i hl
  have hm := draw_lt s x hl
  rw [show (readyL (okN x) (pipesN x) o.cases).getD (drawL s x (readyL (okN x) (pipesN x) o.cases).length).1 0 = (readyL (okN x) (pipesN x) o.cases)[(drawL s x (readyL (okN x) (pipesN x) o.cases).length).1] from by rw [List.getD_eq_getElem?_getD, List.getElem?_eq_getElem hm]; rfl]
  obtain ⟨i, hi, hil, hr⟩ := ready_mem (List.getElem_mem hm)
  rw [hi, Int.toNat_natCast]
  have hch : 0 ≤ (o.cases.getD i ⟨false, 0, 0⟩).chan ∧ (o.cases.getD i ⟨false, 0, 0⟩).chan < 8 := by
   rw [List.getD_eq_getElem?_getD, List.getElem?_eq_getElem hil]
   exact ho.ch _ (List.getElem_mem hil)
  rw [drawL_I]
  exact Val.talk (x := { x with d := (drawI s.draws x.d (readyL (okN x) (pipesN x) o.cases).length).2 }) (hk.dd _) h hch hr
 ·split
  ·exact h.note (calm_kind (show (8 : Int) ≠ 3 by decide) (show (8 : Int) ≠ 4 by decide) (show (8 : Int) ≠ 7 by decide))
  ·exact Val.park (x := noteL x ⟨6, g, -1, (o.cases.length : Int), 0, -1, false, false⟩) (hk.note _) (h.note (calm_kind (show (6 : Int) ≠ 3 by decide) (show (6 : Int) ≠ 4 by decide) (show (6 : Int) ≠ 7 by decide))) g o.cases
theorem bufC_snoc (M : List PipeM) (y : PipeM) (hy : y.buf = []) (c : Nat) : bufC (M ++ [y]) c = bufC M c := by
 unfold bufC
 rw [List.getD_eq_getElem?_getD, List.getD_eq_getElem?_getD]
 rcases Nat.lt_trichotomy c M.length with h | h | h
 ·rw [List.getElem?_append_left h]
 ·subst h
  rw [List.getElem?_append_right (Nat.le_refl _), Nat.sub_self, List.getElem?_eq_none (Nat.le_refl _)]
  exact hy
 ·rw [List.getElem?_eq_none (by simp; omega), List.getElem?_eq_none (by omega)]
theorem Val.other {x : LmM} (h : Val x) (g : Int) (o : OpM) : Val (otherL x g o) := by
 unfold otherL
 split
 ·exact (show Val { x with crew := _ } from h).note (calm_kind (show (1 : Int) ≠ 3 by decide) (show (1 : Int) ≠ 4 by decide) (show (1 : Int) ≠ 7 by decide))
 ·split
  ·exact Val.note (x := { x with M := x.M ++ [emptyM o.b.toNat], name := x.name.set o.a.toNat x.M.length }) (h.setM (fun c' => bufC_snoc _ _ rfl c')) (calm_kind (show (2 : Int) ≠ 3 by decide) (show (2 : Int) ≠ 4 by decide) (show (2 : Int) ≠ 7 by decide))
  ·split
   ·exact h.note (calm_kind (show (9 : Int) ≠ 3 by decide) (show (9 : Int) ≠ 4 by decide) (show (9 : Int) ≠ 7 by decide))
   ·split
    ·exact h.note (calm_kind (show (10 : Int) ≠ 3 by decide) (show (10 : Int) ≠ 4 by decide) (show (10 : Int) ≠ 7 by decide))
    ·exact Val.note (h.turn g 0 2) (calm_kind (show (11 : Int) ≠ 3 by decide) (show (11 : Int) ≠ 4 by decide) (show (11 : Int) ≠ 7 by decide))
theorem Val.does {np k : Nat} {x : LmM} (hk : Lk np k x) (h : Val x) {g : Int} {o : OpM} (ho : OpOk np o) (s : ScrM) : Val (doesL s x g o) := by
 unfold doesL
 split
 ·exact h.alone hk ⟨ho.a0, ho.a1⟩
 ·split
  ·exact h.alone hk ⟨ho.a0, ho.a1⟩
  ·split
   ·exact h.shut g _
   ·split
    ·exact h.choose hk ho s
    ·exact h.other g o
theorem Val.step {np k : Nat} {s : ScrM} {x : LmM} (hk : Lk np k x) (h : Val x) (hs : ProgsOk s.progs) (hn : s.progs.length = np) (h1 : 1 ≤ np) : Val (stepL s x) := by
 unfold stepL
 split
 ·exact h
 ·split
  ·exact Val.note (x := { x with p := x.p + 1 }) h (calm_kind (show (13 : Int) ≠ 3 by decide) (show (13 : Int) ≠ 4 by decide) (show (13 : Int) ≠ 7 by decide))
  ·subst hn
   exact Val.does (x := { x with p := x.p + 1 }) (hk.pp (x.p + 1)) h (opL_ok hs h1 x _) s
theorem Val.run {np : Nat} {s : ScrM} (hs : ProgsOk s.progs) (hn : s.progs.length = np) (h1 : 1 ≤ np) : ∀ n, Val (runL s n)
 | 0 => fun c => rfl
 | n + 1 => (Val.run hs hn h1 n).step (Lk.run hs hn h1 n) hs hn h1
/-- What comes out is what went in, in its order. -/
theorem outs_ins {np : Nat} {s : ScrM} (hs : ProgsOk s.progs) (hn : s.progs.length = np) (h1 : 1 ≤ np) (n c : Nat) : (outsV c (runL s n).tr).length ≤ (insV c (runL s n).tr).length ∧ (insV c (runL s n).tr).take (outsV c (runL s n).tr).length = outsV c (runL s n).tr := by
 rw [Val.run hs hn h1 n c]
 exact ⟨by simp, by simp⟩
end Go.Proofs.YtcgajljbahbhdaaGreat
