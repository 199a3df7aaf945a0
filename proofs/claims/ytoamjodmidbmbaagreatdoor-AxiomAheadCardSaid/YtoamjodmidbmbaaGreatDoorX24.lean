/- Texts of the proof. -/
import Derived.Test.YtoamjodmidbmbaaGreatDoorRows
import Derived.Test.YtoamjodmidbmbaaGreatDoorX16
import Derived.LaidMore
import Derived.LaidLaws
import Derived.MakeChecks
import Derived.ChangeSame
import Derived.FnData
set_option linter.unusedVariables false
set_option linter.unusedSimpArgs false
namespace Go.Proofs.YtoamjodmidbmbaaGreatDoor
open Go.ChangeShapes Go.WideShapes Go.RowKit
set_option maxRecDepth 100000 in
theorem span_cells {W : World} {n : String} {g : Nat} {a b : Int} {t : TypeId} {cs : Array Value} {fuel : Nat} {p : List MemPlace} (hn : Tryz.prog.globalNamed n = some g) (ht : t = 228) (hv : W.var? Tryz.prog n = some cs)
  (hd : DataW.trod (fun _ => ()) Tryz.prog W 0 (fun _ => true) false fuel t cs.toList = some (.agg [.lit (.int .i64 a), .lit (.int .i64 b)], p)) :
  W.cell? ⟨g, 0, none⟩ = some (.int .i64 a) ∧ W.cell? ⟨g, 1, none⟩ = some (.int .i64 b) := by
 subst ht
 obtain ⟨y0, y1, m, hx, hl, h0, h1⟩ := trod_struct2 Tryz.underlying228 hd
 obtain ⟨n0, c0, rfl, _⟩ := DataW.trod_int (k := .i64) (by kernel_rfl) h0
 obtain ⟨n1, c1, rfl, _⟩ := DataW.trod_int (k := .i64) (by kernel_rfl) h1
 have hcell := fun i => World.var?_cell hn hv i
 have hx1 := (Prod.mk.inj hx).1
 simp only [DataW.agg.injEq, List.cons.injEq, DataW.lit.injEq, Lit.int.injEq, true_and, and_true] at hx1
 obtain ⟨rfl, rfl⟩ := hx1
 have k0 : cs.toList[0]? = some (.int .i64 a) := by
  have : ((cs.toList.drop 0).take 1)[0]? = some (.int .i64 a) := by
   have e : (Tryz.prog.cellsOf 3) = 1 := by kernel_rfl
   rw [← e]
   exact (congrArg (·[0]?) c0).trans rfl
  simpa using this
 have k1 : cs.toList[1]? = some (.int .i64 b) := by
  have : ((cs.toList.drop 1).take 1)[0]? = some (.int .i64 b) := by
   have e : (Tryz.prog.cellsOf 3) = 1 := by kernel_rfl
   rw [← e]
   exact (congrArg (·[0]?) c1).trans rfl
  simpa using this
 exact ⟨by rw [hcell]; simpa using k0, by rw [hcell]; simpa using k1⟩
set_option maxRecDepth 100000 in
theorem spans_of_laid {W : World} (h : laidMetH Tryz.prog [("staithe/entry.none", Rows.laid_staithe_entry_none), ("staithe/entry.id", Rows.laid_staithe_entry_id), ("staithe/entry.maybe", Rows.laid_staithe_entry_maybe)] W) : Spans W := by
 rw [MakeChecks.laidMetH_plain _ _ _ (by kernel_rfl)] at h
 obtain ⟨ps, ⟨g1, t1, cs1, f1, p1, q1, hg1, ht1, hv1, hd1, ⟨g2, t2, cs2, f2, p2, q2, hg2, ht2, hv2, hd2, ⟨g3, t3, cs3, f3, p3, q3, hg3, ht3, hv3, hd3, _, _⟩, _⟩, _⟩, _, _⟩ := h
 obtain rfl := Option.some.inj ((show Tryz.prog.globalNamed "staithe/entry.none" = some 1 by kernel_rfl).symm.trans hg1)
 obtain rfl := Option.some.inj ((show Tryz.prog.globalNamed "staithe/entry.id" = some 0 by kernel_rfl).symm.trans hg2)
 obtain rfl := Option.some.inj ((show Tryz.prog.globalNamed "staithe/entry.maybe" = some 2 by kernel_rfl).symm.trans hg3)
 have e1 := Option.some.inj ((show (Tryz.prog.globals[1]?).map (·.type) = some 228 by kernel_rfl).symm.trans ht1)
 have e2 := Option.some.inj ((show (Tryz.prog.globals[0]?).map (·.type) = some 228 by kernel_rfl).symm.trans ht2)
 have e3 := Option.some.inj ((show (Tryz.prog.globals[2]?).map (·.type) = some 228 by kernel_rfl).symm.trans ht3)
 obtain ⟨b0, b1⟩ := span_cells hg1 e1.symm hv1 hd1
 obtain ⟨a0, a1⟩ := span_cells hg2 e2.symm hv2 hd2
 obtain ⟨c0, c1⟩ := span_cells hg3 e3.symm hv3 hd3
 exact ⟨a0, a1, b0, b1, c0, c1, World.block_lt_of_cell? W _ c0⟩
end Go.Proofs.YtoamjodmidbmbaaGreatDoor
